/- Meanings of functions: coding -/
import Derived.Test.YtgnmelnohclpgaaDoorSxS
set_option linter.unusedVariables false
namespace Go.Proofs.YtgnmelnohclpgaaDoor
open Go

/-- slices.Clone[[]byte,byte] -/
def an117 : Ann := .o
def s117 (a0 : Value) (w : World) (K : Cont) : Prop :=
  eqX EqK.slice a0 (Value.slice none 0 0) fun t1 =>
  brX t1
    (K (Value.slice none 0 0) w)
  (buildSX 5 1 [] w fun t2 w1 =>
  appendX 5 1 1 [Value.int IntKind.u8 0] t2 a0 w1 fun t3 w2 =>
  K t3 w2)
theorem e117 (a0 : Value) (w : World) (K : Cont) : fX Tryd.prog 117 an117 [a0] w K = s117 a0 w K := by kernel_rfl
theorem c117 (a0 : Value) (w : World) (K : Cont) (h : s117 a0 w K) : callX Tryd.prog 117 [a0] w K := fX_call mixed (e117 a0 w K) h

/-- berthing/coding.fold -/
def an147 : Ann := .o
def s147 (a0 : Value) (w : World) (K : Cont) : Prop :=
  shlX a0 (Value.int IntKind.u64 1) fun t1 =>
  convIX IntKind.u64 t1 fun t2 =>
  shrX a0 (Value.int IntKind.u64 63) fun t3 =>
  convIX IntKind.u64 t3 fun t4 =>
  xorX t2 t4 fun t5 =>
  K t5 w
theorem e147 (a0 : Value) (w : World) (K : Cont) : fX Tryd.prog 147 an147 [a0] w K = s147 a0 w K := by kernel_rfl
theorem c147 (a0 : Value) (w : World) (K : Cont) (h : s147 a0 w K) : callX Tryd.prog 147 [a0] w K := fX_call mixed (e147 a0 w K) h

/-- berthing/coding.put[uint64] -/
def an146 : Ann := (.n none .nil .o (.n none .nil (.n none .nil (.n (some ([0, 1, 5, 6, 7, 8, 9, 10, 11, 12, 13, 14], [0, 1])) .nil .o .o) .o) .o))
def s146 (a0 a1 : Value) (w : World) (K : Cont) : Prop :=
  ∃ (I1 : Value → Value → World → Prop), ∃ (m2 : Value → Value → World → Nat), (I1 a0 a1 w ∧
  ∀ (t1 : Value), ∀ (t2 : Value), ∀ (w1 : World), (I1 t1 t2 w1 →
  geX t2 (Value.int IntKind.u64 128) fun t3 =>
  brX t3
    (convIX IntKind.u8 t2 fun t4 =>
     orX t4 (Value.int IntKind.u8 128) fun t5 =>
     buildSX 5 1 [t5] w1 fun t6 w2 =>
     appendX 5 1 1 [Value.int IntKind.u8 0] t1 t6 w2 fun t7 w3 =>
     shrX t2 (Value.int IntKind.u64 7) fun t8 =>
     (I1 t7 t8 w3 ∧
     lessN (m2 t7 t8 w3) (m2 t1 t2 w1)))
  (convIX IntKind.u8 t2 fun t9 =>
  buildSX 5 1 [t9] w1 fun t10 w4 =>
  appendX 5 1 1 [Value.int IntKind.u8 0] t1 t10 w4 fun t11 w5 =>
  K t11 w5)))
theorem e146 (a0 a1 : Value) (w : World) (K : Cont) : fX Tryd.prog 146 an146 [a0, a1] w K = s146 a0 a1 w K := by kernel_rfl
theorem c146 (a0 a1 : Value) (w : World) (K : Cont) (h : s146 a0 a1 w K) : callX Tryd.prog 146 [a0, a1] w K := fX_call mixed (e146 a0 a1 w K) h

/-- berthing/coding.PutInt -/
def an82 : Ann := .o
def s82 (a0 a1 : Value) (w : World) (K : Cont) : Prop :=
  callX Tryd.prog 117 [a0] w fun t1 w1 =>
  callX Tryd.prog 147 [a1] w1 fun t2 w2 =>
  callX Tryd.prog 146 [t1, t2] w2 fun t3 w3 =>
  K t3 w3
theorem e82 (a0 a1 : Value) (w : World) (K : Cont) : fX Tryd.prog 82 an82 [a0, a1] w K = s82 a0 a1 w K := by kernel_rfl
theorem c82 (a0 a1 : Value) (w : World) (K : Cont) (h : s82 a0 a1 w K) : callX Tryd.prog 82 [a0, a1] w K := fX_call mixed (e82 a0 a1 w K) h

/-- berthing/coding.Read -/
def an84 : Ann := .o
def s84 (a0 : Value) (w : World) (K : Cont) : Prop :=
  callX Tryd.prog 117 [a0] w fun t1 w1 =>
  buildX [Value.slice none 0 0, Value.nilIface] [(0, 1, t1)] fun t2 =>
  boxX 217 t2 w1 fun t3 w2 =>
  K t3 w2
theorem e84 (a0 : Value) (w : World) (K : Cont) : fX Tryd.prog 84 an84 [a0] w K = s84 a0 w K := by kernel_rfl
theorem c84 (a0 : Value) (w : World) (K : Cont) (h : s84 a0 w K) : callX Tryd.prog 84 [a0] w K := fX_call mixed (e84 a0 w K) h

/-- berthing/coding.unfold -/
def an148 : Ann := .o
def s148 (a0 : Value) (w : World) (K : Cont) : Prop :=
  shrX a0 (Value.int IntKind.u64 1) fun t1 =>
  convIX IntKind.i64 t1 fun t2 =>
  andX a0 (Value.int IntKind.u64 1) fun t3 =>
  convIX IntKind.i64 t3 fun t4 =>
  negX t4 fun t5 =>
  xorX t2 t5 fun t6 =>
  K t6 w
theorem e148 (a0 : Value) (w : World) (K : Cont) : fX Tryd.prog 148 an148 [a0] w K = s148 a0 w K := by kernel_rfl
theorem c148 (a0 : Value) (w : World) (K : Cont) (h : s148 a0 w K) : callX Tryd.prog 148 [a0] w K := fX_call mixed (e148 a0 w K) h

/-- (*berthing/coding.Cursor).fail -/
def an151 : Ann := (.n none .nil (.n (some ([4, 5, 6, 7, 8, 9, 10, 11, 12], [12])) .nil .o .o) .o)
def s151 (a0 a1 : Value) (w : World) (K : Cont) : Prop :=
  joinX (α := Value → World → Prop)
  (fun t1 w1 =>
   brX t1
     (ifaceX 34 a1 fun t2 =>
      nilX a0 fun t3 =>
      fieldAddrX 0 t3 fun t4 =>
      store1X t4 (Value.slice none 0 0) w1 fun w2 =>
      nilX a0 fun t5 =>
      fieldAddrX 1 t5 fun t6 =>
      store1X t6 t2 w2 fun w3 =>
      K (Value.tuple #[]) w3)
   (K (Value.tuple #[]) w1))
  fun J1 =>
  neX EqK.ptr a0 (Value.pointer none) fun t7 =>
  brX t7
    (nilX a0 fun t8 =>
     fieldAddrX 1 t8 fun t9 =>
     load1X t9 w fun t10 =>
     eqX EqK.iface t10 Value.nilIface fun t11 =>
     J1 t11 w)
  (J1 (Value.bool false) w)
theorem e151 (a0 a1 : Value) (w : World) (K : Cont) : fX Tryd.prog 151 an151 [a0, a1] w K = s151 a0 a1 w K := by kernel_rfl
theorem c151 (a0 a1 : Value) (w : World) (K : Cont) (h : s151 a0 a1 w K) : callX Tryd.prog 151 [a0, a1] w K := fX_call mixed (e151 a0 a1 w K) h

/-- (*berthing/coding.Cursor).fine -/
def an150 : Ann := .o
def s150 (a0 : Value) (w : World) (K : Cont) : Prop :=
  neX EqK.ptr a0 (Value.pointer none) fun t1 =>
  brX t1
    (nilX a0 fun t2 =>
     fieldAddrX 1 t2 fun t3 =>
     load1X t3 w fun t4 =>
     eqX EqK.iface t4 Value.nilIface fun t5 =>
     K t5 w)
  (K (Value.bool false) w)
theorem e150 (a0 : Value) (w : World) (K : Cont) : fX Tryd.prog 150 an150 [a0] w K = s150 a0 w K := by kernel_rfl
theorem c150 (a0 : Value) (w : World) (K : Cont) (h : s150 a0 w K) : callX Tryd.prog 150 [a0] w K := fX_call mixed (e150 a0 w K) h

/-- (*berthing/coding.Cursor).group -/
def an149 : Ann := (.n none .nil .o (.n none .nil .o (.n none .nil .o (.n none .nil (.n none .nil .o (.n none .nil (.n (some ([2, 3, 4, 5, 6, 15, 16, 17, 18, 19, 20, 21, 22, 23, 24, 25, 26, 27, 28, 29, 30, 31, 32, 33, 34, 35, 36, 37, 38, 39, 40, 41, 42, 43, 44, 45, 46, 47, 48, 49, 50, 51, 52, 53, 54, 55, 56, 57, 58, 59, 60], [3, 15])) .nil (.n none .nil .o (.n none .nil .o (.n none .nil (.n none .nil (.n none .nil .o (.n none .nil .o (.n none .nil (.n none .nil (.n none .nil (.n none .nil (.n (some ([22, 23, 24, 25, 26, 27, 28], [22])) .nil .o .o) (.n (some ([22, 29, 30, 31, 32, 33, 34, 35, 36, 37], [22])) .nil .o .o)) .o) .o) .o))) .o) .o))) .o) .o)) .o))))
def s149 (a0 : Value) (w : World) (K : Cont) : Prop :=
  callX Tryd.prog 150 [a0] w fun t1 w1 =>
  notX t1 fun t2 =>
  brX t2
    (K (Value.int IntKind.u64 0) w1)
  (nilX a0 fun t3 =>
  fieldAddrX 0 t3 fun t4 =>
  load1X t4 w1 fun t5 =>
  lenSX t5 fun t6 =>
  ∃ (I1 : Value → Value → World → Prop), ∃ (m2 : Value → Value → World → Nat), (I1 (Value.int IntKind.u64 0) (Value.int IntKind.i64 0) w1 ∧
  ∀ (t7 : Value), ∀ (t8 : Value), ∀ (w2 : World), (I1 t7 t8 w2 →
  ltX t8 t6 fun t9 =>
  brX t9
    (indexSX 1 t5 t8 fun t10 =>
     load1X t10 w2 fun t11 =>
     ltX t11 (Value.int IntKind.u8 128) fun t12 =>
     joinX (α := Value → World → Prop)
     (fun t13 w3 =>
      joinX (α := Value → World → Prop)
      (fun t14 w4 =>
       brX t14
         (callX Tryd.prog 151 [a0, Value.int IntKind.i64 11] w4 fun t15 w5 =>
          K (Value.int IntKind.u64 0) w5)
       (andNotX t11 (Value.int IntKind.u8 128) fun t16 =>
       convIX IntKind.u64 t16 fun t17 =>
       mulX (Value.int IntKind.i64 7) t8 fun t18 =>
       shlX t17 t18 fun t19 =>
       orX t7 t19 fun t20 =>
       brX t12
         (nilX a0 fun t21 =>
          fieldAddrX 0 t21 fun t22 =>
          load1X t22 w4 fun t23 =>
          addX t8 (Value.int IntKind.i64 1) fun t24 =>
          sliceX 1 t23 (some t24) none none fun t25 =>
          nilX a0 fun t26 =>
          fieldAddrX 0 t26 fun t27 =>
          store1X t27 t25 w4 fun w6 =>
          K t20 w6)
       (addX t8 (Value.int IntKind.i64 1) fun t28 =>
       (I1 t20 t28 w4 ∧
       lessN (m2 t20 t28 w4) (m2 t7 t8 w2)))))
      fun J3 =>
      brX t13
        (J3 (Value.bool true) w3)
      (brX t12
        (eqX EqK.num t11 (Value.int IntKind.u8 0) fun t29 =>
         brX t29
           (gtX t8 (Value.int IntKind.i64 0) fun t30 =>
            J3 t30 w3)
         (J3 (Value.bool false) w3))
      (J3 (Value.bool false) w3)))
     fun J4 =>
     eqX EqK.num t8 (Value.int IntKind.i64 9) fun t31 =>
     brX t31
       (gtX t11 (Value.int IntKind.u8 1) fun t32 =>
        J4 t32 w2)
     (J4 (Value.bool false) w2))
  (callX Tryd.prog 151 [a0, Value.int IntKind.i64 10] w2 fun t33 w7 =>
  K (Value.int IntKind.u64 0) w7))))
theorem e149 (a0 : Value) (w : World) (K : Cont) : fX Tryd.prog 149 an149 [a0] w K = s149 a0 w K := by kernel_rfl
theorem c149 (a0 : Value) (w : World) (K : Cont) (h : s149 a0 w K) : callX Tryd.prog 149 [a0] w K := fX_call mixed (e149 a0 w K) h

/-- (*berthing/coding.Cursor).Int -/
def an86 : Ann := .o
def s86 (a0 : Value) (w : World) (K : Cont) : Prop :=
  callX Tryd.prog 149 [a0] w fun t1 w1 =>
  callX Tryd.prog 148 [t1] w1 fun t2 w2 =>
  K t2 w2
theorem e86 (a0 : Value) (w : World) (K : Cont) : fX Tryd.prog 86 an86 [a0] w K = s86 a0 w K := by kernel_rfl
theorem c86 (a0 : Value) (w : World) (K : Cont) (h : s86 a0 w K) : callX Tryd.prog 86 [a0] w K := fX_call mixed (e86 a0 w K) h

/-- (*berthing/coding.Cursor).Small -/
def an89 : Ann := (.n none .nil .o (.n none .nil .o (.n none .nil (.n none .nil (.n (some ([8, 9, 10, 11, 12, 13, 14, 15, 16, 17, 18], [18])) .nil .o .o) .o) .o)))
def s89 (a0 a1 : Value) (w : World) (K : Cont) : Prop :=
  callX Tryd.prog 86 [a0] w fun t1 w1 =>
  joinX (α := Value → World → Prop)
  (fun t2 w2 =>
   brX t2
     (callX Tryd.prog 151 [a0, Value.int IntKind.i64 2] w2 fun t3 w3 =>
      K (Value.int IntKind.i64 0) w3)
   (K t1 w2))
  fun J1 =>
  callX Tryd.prog 150 [a0] w1 fun t4 w4 =>
  brX t4
    (ltX t1 (Value.int IntKind.i64 0) fun t5 =>
     brX t5
       (J1 (Value.bool true) w4)
     (gtX t1 a1 fun t6 =>
     J1 t6 w4))
  (J1 (Value.bool false) w4)
theorem e89 (a0 a1 : Value) (w : World) (K : Cont) : fX Tryd.prog 89 an89 [a0, a1] w K = s89 a0 a1 w K := by kernel_rfl
theorem c89 (a0 a1 : Value) (w : World) (K : Cont) (h : s89 a0 a1 w K) : callX Tryd.prog 89 [a0, a1] w K := fX_call mixed (e89 a0 a1 w K) h

/-- (*berthing/coding.Cursor).Rest -/
def an91 : Ann := .o
def s91 (a0 : Value) (w : World) (K : Cont) : Prop :=
  eqX EqK.ptr a0 (Value.pointer none) fun t1 =>
  brX t1
    (K (Value.int IntKind.i64 0) w)
  (nilX a0 fun t2 =>
  fieldAddrX 0 t2 fun t3 =>
  load1X t3 w fun t4 =>
  lenSX t4 fun t5 =>
  K t5 w)
theorem e91 (a0 : Value) (w : World) (K : Cont) : fX Tryd.prog 91 an91 [a0] w K = s91 a0 w K := by kernel_rfl
theorem c91 (a0 : Value) (w : World) (K : Cont) (h : s91 a0 w K) : callX Tryd.prog 91 [a0] w K := fX_call mixed (e91 a0 w K) h

/-- (*berthing/coding.Cursor).End -/
def an126 : Ann := (.n none .nil .o (.n none .nil (.n none .nil (.n (some ([3, 4, 5, 6, 7, 8, 9], [9])) .nil .o .o) .o) .o))
def s126 (a0 : Value) (w : World) (K : Cont) : Prop :=
  joinX (α := Value → World → Prop)
  (fun t1 w1 =>
   brX t1
     (K (Value.int IntKind.i64 11) w1)
   (callX Tryd.prog 90 [a0] w1 fun t2 w2 =>
   K t2 w2))
  fun J1 =>
  callX Tryd.prog 150 [a0] w fun t3 w3 =>
  brX t3
    (callX Tryd.prog 91 [a0] w3 fun t4 w4 =>
     gtX t4 (Value.int IntKind.i64 0) fun t5 =>
     J1 t5 w4)
  (J1 (Value.bool false) w3)
theorem e126 (a0 : Value) (w : World) (K : Cont) : fX Tryd.prog 126 an126 [a0] w K = s126 a0 w K := by kernel_rfl
theorem c126 (a0 : Value) (w : World) (K : Cont) (h : s126 a0 w K) : callX Tryd.prog 126 [a0] w K := fX_call mixed (e126 a0 w K) h

/-- (*berthing/coding.Cursor).Bad -/
def an90 : Ann := (.n none .nil .o (.n none .nil .o (.n none .nil (.n none .nil (.n (some ([4, 5, 6, 7, 8, 9, 10, 11, 12, 13, 14], [14])) .nil .o .o) .o) .o)))
def s90 (a0 : Value) (w : World) (K : Cont) : Prop :=
  newX 34 [Value.int IntKind.i64 0] w fun t1 w1 =>
  joinX (α := Value → World → Prop)
  (fun t2 w2 =>
   brX t2
     (K (Value.int IntKind.i64 0) w2)
   (load1X t1 w2 fun t3 =>
   K t3 w2))
  fun J1 =>
  eqX EqK.ptr a0 (Value.pointer none) fun t4 =>
  brX t4
    (J1 (Value.bool true) w1)
  (nilX a0 fun t5 =>
  fieldAddrX 1 t5 fun t6 =>
  load1X t6 w1 fun t7 =>
  ifaceX 221 t1 fun t8 =>
  callX Tryd.prog 152 [t7, t8] w1 fun t9 w3 =>
  notX t9 fun t10 =>
  J1 t10 w3)
theorem e90 (a0 : Value) (w : World) (K : Cont) : fX Tryd.prog 90 an90 [a0] w K = s90 a0 w K := by kernel_rfl
theorem c90 (a0 : Value) (w : World) (K : Cont) (h : s90 a0 w K) : callX Tryd.prog 90 [a0] w K := fX_call mixed (e90 a0 w K) h

/-- berthing/berthingref02.Fold -/
def an158 : Ann := .o
def s158 (a0 : Value) (w : World) (K : Cont) : Prop :=
  ltX a0 (Value.int IntKind.i64 0) fun t1 =>
  brX t1
    (addX a0 (Value.int IntKind.i64 1) fun t2 =>
     negX t2 fun t3 =>
     convIX IntKind.u64 t3 fun t4 =>
     mulX (Value.int IntKind.u64 2) t4 fun t5 =>
     addX t5 (Value.int IntKind.u64 1) fun t6 =>
     K t6 w)
  (convIX IntKind.u64 a0 fun t7 =>
  mulX (Value.int IntKind.u64 2) t7 fun t8 =>
  K t8 w)
theorem e158 (a0 : Value) (w : World) (K : Cont) : fX Tryd.prog 158 an158 [a0] w K = s158 a0 w K := by kernel_rfl
theorem c158 (a0 : Value) (w : World) (K : Cont) (h : s158 a0 w K) : callX Tryd.prog 158 [a0] w K := fX_call mixed (e158 a0 w K) h

/-- berthing/berthingref02.PutInt -/
def an96 : Ann := (.n none .nil .o (.n none .nil .o (.n none .nil (.n none .nil (.n (some ([0, 5, 8, 9, 10, 11, 12, 13, 14, 15, 16, 17, 18, 19], [0, 5])) .nil .o .o) .o) .o)))
def s96 (a0 a1 : Value) (w : World) (K : Cont) : Prop :=
  callX Tryd.prog 158 [a1] w fun t1 w1 =>
  ∃ (I1 : Value → Value → World → Prop), ∃ (m2 : Value → Value → World → Nat), (I1 a0 t1 w1 ∧
  ∀ (t2 : Value), ∀ (t3 : Value), ∀ (w2 : World), (I1 t2 t3 w2 →
  geX t3 (Value.int IntKind.u64 128) fun t4 =>
  brX t4
    (remX t3 (Value.int IntKind.u64 128) fun t5 =>
     addX t5 (Value.int IntKind.u64 128) fun t6 =>
     convIX IntKind.u8 t6 fun t7 =>
     buildSX 5 1 [t7] w2 fun t8 w3 =>
     strX t8 w3 fun t9 =>
     addX t2 t9 fun t10 =>
     quoX t3 (Value.int IntKind.u64 128) fun t11 =>
     (I1 t10 t11 w3 ∧
     lessN (m2 t10 t11 w3) (m2 t2 t3 w2)))
  (convIX IntKind.u8 t3 fun t12 =>
  buildSX 5 1 [t12] w2 fun t13 w4 =>
  strX t13 w4 fun t14 =>
  addX t2 t14 fun t15 =>
  K t15 w4)))
theorem e96 (a0 a1 : Value) (w : World) (K : Cont) : fX Tryd.prog 96 an96 [a0, a1] w K = s96 a0 a1 w K := by kernel_rfl
theorem c96 (a0 a1 : Value) (w : World) (K : Cont) (h : s96 a0 a1 w K) : callX Tryd.prog 96 [a0, a1] w K := fX_call mixed (e96 a0 a1 w K) h

/-- berthing/berthingref02.Unfold -/
def an154 : Ann := .o
def s154 (a0 : Value) (w : World) (K : Cont) : Prop :=
  remX a0 (Value.int IntKind.u64 2) fun t1 =>
  eqX EqK.num t1 (Value.int IntKind.u64 1) fun t2 =>
  brX t2
    (quoX a0 (Value.int IntKind.u64 2) fun t3 =>
     convIX IntKind.i64 t3 fun t4 =>
     negX t4 fun t5 =>
     subX t5 (Value.int IntKind.i64 1) fun t6 =>
     K t6 w)
  (quoX a0 (Value.int IntKind.u64 2) fun t7 =>
  convIX IntKind.i64 t7 fun t8 =>
  K t8 w)
theorem e154 (a0 : Value) (w : World) (K : Cont) : fX Tryd.prog 154 an154 [a0] w K = s154 a0 w K := by kernel_rfl
theorem c154 (a0 : Value) (w : World) (K : Cont) (h : s154 a0 w K) : callX Tryd.prog 154 [a0] w K := fX_call mixed (e154 a0 w K) h

/-- (berthing/berthingref02.Cursor).wrong -/
def an153 : Ann := .o
def s153 (a0 a1 : Value) (w : World) (K : Cont) : Prop :=
  boxX 161 a0 w fun t1 w1 =>
  newX 161 [Value.string { data := #[] }, Value.int IntKind.i64 0] w1 fun t2 w2 =>
  buildX [Value.string { data := #[] }, Value.int IntKind.i64 0] [(1, 1, a1)] fun t3 =>
  storeNX 2 t2 t3 w2 fun w3 =>
  loadNX 2 t2 w3 fun t4 =>
  K t4 w3
theorem e153 (a0 a1 : Value) (w : World) (K : Cont) : fX Tryd.prog 153 an153 [a0, a1] w K = s153 a0 a1 w K := by kernel_rfl
theorem c153 (a0 a1 : Value) (w : World) (K : Cont) (h : s153 a0 a1 w K) : callX Tryd.prog 153 [a0, a1] w K := fX_call mixed (e153 a0 a1 w K) h

/-- (berthing/berthingref02.Cursor).Int -/
def an92 : Ann := (.n none .nil .o (.n none .nil .o (.n none .nil .o (.n none .nil (.n none .nil .o (.n none .nil (.n (some ([3, 4, 5, 6, 11, 12, 13, 14, 15, 16, 17, 18, 19, 20, 21, 22, 23, 24, 25, 26, 27, 28, 29, 30, 31, 32, 33, 34, 35, 36, 37, 38, 39, 40, 41, 42, 43, 44, 45, 46, 47, 48, 49, 50, 51, 52, 53, 54, 55, 56, 57, 58, 59, 60], [4, 5])) .nil (.n none .nil .o (.n none .nil (.n none .nil (.n none .nil .o (.n none .nil .o (.n none .nil (.n none .nil (.n (some ([27, 28, 29, 30, 31, 32], [32])) .nil .o .o) .o) (.n none .nil .o (.n none .nil .o (.n none .nil (.n none .nil (.n none .nil (.n (some ([45, 46, 47, 48, 49, 50], [50])) .nil .o .o) .o) (.n none .nil (.n none (.one 0 (.one 2 (.one 3 (.one 6 (.one 1 (.one 4 (.one 5 (.eff (.alt 7 none (.eff (.alt 8 (some [5, 7, 0, 1, 2, 3, 4, 6]) (.one 9 .nil) .stop)) .stop))))))))) .o .o) .o)) .o)))))) .o) .o)) .o) .o)) .o))))
def s92 (a0 : Value) (w : World) (K : Cont) : Prop :=
  boxX 161 a0 w fun t1 w1 =>
  newX 161 [Value.string { data := #[] }, Value.int IntKind.i64 0] w1 fun t2 w2 =>
  fieldAddrX 1 t1 fun t3 =>
  load1X t3 w2 fun t4 =>
  neX EqK.num t4 (Value.int IntKind.i64 0) fun t5 =>
  brX t5
    (loadNX 2 t1 w2 fun t6 =>
     storeNX 2 t2 t6 w2 fun w3 =>
     loadNX 2 t2 w3 fun t7 =>
     K (Value.tuple #[t7, Value.int IntKind.i64 0]) w3)
  (∃ (I1 : Value → Value → World → Prop), ∃ (m2 : Value → Value → World → Nat), (I1 (Value.int IntKind.u64 0) (Value.int IntKind.i64 0) w2 ∧
  ∀ (t8 : Value), ∀ (t9 : Value), ∀ (w4 : World), (I1 t8 t9 w4 →
  ltX t9 (Value.int IntKind.i64 10) fun t10 =>
  brX t10
    (fieldAddrX 0 t1 fun t11 =>
     load1X t11 w4 fun t12 =>
     lenStrX t12 fun t13 =>
     geX t9 t13 fun t14 =>
     brX t14
       (loadNX 2 t1 w4 fun t15 =>
        callX Tryd.prog 153 [t15, Value.int IntKind.i64 10] w4 fun t16 w5 =>
        storeNX 2 t2 t16 w5 fun w6 =>
        loadNX 2 t2 w6 fun t17 =>
        K (Value.tuple #[t17, Value.int IntKind.i64 0]) w6)
     (fieldAddrX 0 t1 fun t18 =>
     load1X t18 w4 fun t19 =>
     indexStrX t19 t9 fun t20 =>
     convIX IntKind.u64 t20 fun t21 =>
     joinX (α := Value → World → Prop)
     (fun t22 w7 =>
      brX t22
        (loadNX 2 t1 w7 fun t23 =>
         callX Tryd.prog 153 [t23, Value.int IntKind.i64 11] w7 fun t24 w8 =>
         storeNX 2 t2 t24 w8 fun w9 =>
         loadNX 2 t2 w9 fun t25 =>
         K (Value.tuple #[t25, Value.int IntKind.i64 0]) w9)
      (remX t21 (Value.int IntKind.u64 128) fun t26 =>
      mulX (Value.int IntKind.i64 7) t9 fun t27 =>
      convIX IntKind.u64 t27 fun t28 =>
      shlX t26 t28 fun t29 =>
      addX t8 t29 fun t30 =>
      ltX t21 (Value.int IntKind.u64 128) fun t31 =>
      brX t31
        (joinX (α := Value → World → Prop)
         (fun t32 w10 =>
          brX t32
            (loadNX 2 t1 w10 fun t33 =>
             callX Tryd.prog 153 [t33, Value.int IntKind.i64 11] w10 fun t34 w11 =>
             storeNX 2 t2 t34 w11 fun w12 =>
             loadNX 2 t2 w12 fun t35 =>
             K (Value.tuple #[t35, Value.int IntKind.i64 0]) w12)
          (∀ (w13 : World), (Drew w10 w13 →
          ∃ (S3 : World → Prop), (S3 w13 ∧
          fieldAddrX 0 t1 fun t36 =>
          addX t9 (Value.int IntKind.i64 1) fun t37 =>
          load1H S3 t36 fun t38 =>
          sliceStrX t38 (some t37) none fun t39 =>
          buildX [Value.string { data := #[] }, Value.int IntKind.i64 0] [(0, 1, t39)] fun t40 =>
          callX Tryd.prog 154 [t30] w13 fun t41 w14 =>
          (S3 w14 ∧
          storeNX 2 t2 t40 w14 fun w15 =>
          loadNX 2 t2 w15 fun t42 =>
          K (Value.tuple #[t42, t41]) w15)))))
         fun J4 =>
         eqX EqK.num t21 (Value.int IntKind.u64 0) fun t43 =>
         brX t43
           (gtX t9 (Value.int IntKind.i64 0) fun t44 =>
            J4 t44 w7)
         (J4 (Value.bool false) w7))
      (addX t9 (Value.int IntKind.i64 1) fun t45 =>
      (I1 t30 t45 w7 ∧
      lessN (m2 t30 t45 w7) (m2 t8 t9 w4)))))
     fun J5 =>
     eqX EqK.num t9 (Value.int IntKind.i64 9) fun t46 =>
     brX t46
       (gtX t21 (Value.int IntKind.u64 1) fun t47 =>
        J5 t47 w4)
     (J5 (Value.bool false) w4)))
  (loadNX 2 t1 w4 fun t48 =>
  callX Tryd.prog 153 [t48, Value.int IntKind.i64 11] w4 fun t49 w16 =>
  storeNX 2 t2 t49 w16 fun w17 =>
  loadNX 2 t2 w17 fun t50 =>
  K (Value.tuple #[t50, Value.int IntKind.i64 0]) w17))))
theorem e92 (a0 : Value) (w : World) (K : Cont) : fX Tryd.prog 92 an92 [a0] w K = s92 a0 w K := by kernel_rfl
theorem c92 (a0 : Value) (w : World) (K : Cont) (h : s92 a0 w K) : callX Tryd.prog 92 [a0] w K := fX_call mixed (e92 a0 w K) h

/-- (berthing/berthingref02.Cursor).Small -/
def an128 : Ann := (.n none .nil .o (.n none .nil .o (.n none .nil .o (.n none .nil (.n none .nil (.n (some ([17, 18, 19, 20, 21, 22, 23], [23])) .nil .o .o) .o) .o))))
def s128 (a0 a1 : Value) (w : World) (K : Cont) : Prop :=
  boxX 161 a0 w fun t1 w1 =>
  newX 161 [Value.string { data := #[] }, Value.int IntKind.i64 0] w1 fun t2 w2 =>
  loadNX 2 t1 w2 fun t3 =>
  callX Tryd.prog 92 [t3] w2 fun t4 w3 =>
  extractX t4 0 fun t5 =>
  extractX t4 1 fun t6 =>
  newX 161 [Value.string { data := #[] }, Value.int IntKind.i64 0] w3 fun t7 w4 =>
  storeNX 2 t7 t5 w4 fun w5 =>
  fieldAddrX 1 t7 fun t8 =>
  load1X t8 w5 fun t9 =>
  neX EqK.num t9 (Value.int IntKind.i64 0) fun t10 =>
  brX t10
    (loadNX 2 t7 w5 fun t11 =>
     storeNX 2 t2 t11 w5 fun w6 =>
     loadNX 2 t2 w6 fun t12 =>
     K (Value.tuple #[t12, Value.int IntKind.i64 0]) w6)
  (joinX (α := Value → World → Prop)
  (fun t13 w7 =>
   brX t13
     (loadNX 2 t7 w7 fun t14 =>
      callX Tryd.prog 153 [t14, Value.int IntKind.i64 2] w7 fun t15 w8 =>
      storeNX 2 t2 t15 w8 fun w9 =>
      loadNX 2 t2 w9 fun t16 =>
      K (Value.tuple #[t16, Value.int IntKind.i64 0]) w9)
   (loadNX 2 t7 w7 fun t17 =>
   storeNX 2 t2 t17 w7 fun w10 =>
   loadNX 2 t2 w10 fun t18 =>
   K (Value.tuple #[t18, t6]) w10))
  fun J1 =>
  ltX t6 (Value.int IntKind.i64 0) fun t19 =>
  brX t19
    (J1 (Value.bool true) w5)
  (gtX t6 a1 fun t20 =>
  J1 t20 w5))
theorem e128 (a0 a1 : Value) (w : World) (K : Cont) : fX Tryd.prog 128 an128 [a0, a1] w K = s128 a0 a1 w K := by kernel_rfl
theorem c128 (a0 a1 : Value) (w : World) (K : Cont) (h : s128 a0 a1 w K) : callX Tryd.prog 128 [a0, a1] w K := fX_call mixed (e128 a0 a1 w K) h

/-- (berthing/berthingref02.Cursor).End -/
def an131 : Ann := (.n none .nil .o (.n none .nil (.n none .nil (.n (some ([3, 4, 5, 6, 7, 8, 9, 10], [10])) .nil .o .o) .o) .o))
def s131 (a0 : Value) (w : World) (K : Cont) : Prop :=
  boxX 161 a0 w fun t1 w1 =>
  joinX (α := Value → World → Prop)
  (fun t2 w2 =>
   brX t2
     (K (Value.int IntKind.i64 11) w2)
   (fieldAddrX 1 t1 fun t3 =>
   load1X t3 w2 fun t4 =>
   K t4 w2))
  fun J1 =>
  fieldAddrX 1 t1 fun t5 =>
  load1X t5 w1 fun t6 =>
  eqX EqK.num t6 (Value.int IntKind.i64 0) fun t7 =>
  brX t7
    (fieldAddrX 0 t1 fun t8 =>
     load1X t8 w1 fun t9 =>
     neX EqK.str t9 (Value.string { data := #[] }) fun t10 =>
     J1 t10 w1)
  (J1 (Value.bool false) w1)
theorem e131 (a0 : Value) (w : World) (K : Cont) : fX Tryd.prog 131 an131 [a0] w K = s131 a0 w K := by kernel_rfl
theorem c131 (a0 : Value) (w : World) (K : Cont) (h : s131 a0 w K) : callX Tryd.prog 131 [a0] w K := fX_call mixed (e131 a0 w K) h

end Go.Proofs.YtgnmelnohclpgaaDoor
