/- The snaps' functions, their meanings. -/
import Derived.Test.YtgnmelnohclpgaaDoorSxS
import Derived.Test.YtgnmelnohclpgaaDoorSxV
set_option linter.unusedVariables false
namespace Go.Proofs.YtgnmelnohclpgaaDoor
open Go

/-- berthing/snaps.of -/
def an118 : Ann := (.n none .nil .o (.n none .nil .o (.n none .nil (.n none .nil (.n (some ([11, 12, 13, 14, 15, 16, 17, 18, 19, 20, 21, 22, 23, 24, 25, 26], [26])) .nil .o .o) .o) .o)))
def s118 (a0 : Value) (w : World) (K : Cont) : Prop :=
  newX 62 [Value.int IntKind.i64 0, Value.slice none 0 0] w fun t1 w1 =>
  callX Tryd.prog 40 [a0] w1 fun t2 w2 =>
  extractX t2 0 fun t3 =>
  extractX t2 1 fun t4 =>
  joinX (α := Value → World → Prop)
  (fun t5 w3 =>
   brX t5
     (buildX [Value.int IntKind.i64 0, Value.slice none 0 0] [] fun t6 =>
      storeNX 2 t1 t6 w3 fun w4 =>
      loadNX 2 t1 w4 fun t7 =>
      K (Value.tuple #[t7, Value.bool false]) w4)
   (indexSX 2 t3 (Value.int IntKind.i64 0) fun t8 =>
   loadNX 2 t8 w3 fun t9 =>
   storeNX 2 t1 t9 w3 fun w5 =>
   loadNX 2 t1 w5 fun t10 =>
   K (Value.tuple #[t10, Value.bool true]) w5))
  fun J1 =>
  lenSX t3 fun t11 =>
  neX EqK.num t11 (Value.int IntKind.i64 1) fun t12 =>
  brX t12
    (J1 (Value.bool true) w2)
  (lenSX a0 fun t13 =>
  neX EqK.num t4 t13 fun t14 =>
  brX t14
    (J1 (Value.bool true) w2)
  (indexSX 2 t3 (Value.int IntKind.i64 0) fun t15 =>
  fieldAddrX 0 t15 fun t16 =>
  load1X t16 w2 fun t17 =>
  ltX t17 (Value.int IntKind.i64 1) fun t18 =>
  J1 t18 w2))
theorem e118 (a0 : Value) (w : World) (K : Cont) : fX Tryd.prog 118 an118 [a0] w K = s118 a0 w K := by kernel_rfl
theorem c118 (a0 : Value) (w : World) (K : Cont) (h : s118 a0 w K) : callX Tryd.prog 118 [a0] w K := fX_call mixed (e118 a0 w K) h

/-- berthing/berthingref06.Of -/
def an119 : Ann := (.n none .nil .o (.n none .nil .o (.n none .nil (.n none .nil (.n (some ([11, 12, 13, 14, 15, 16, 17, 18, 19, 20, 21, 22, 23, 24, 25, 26], [26])) .nil .o .o) .o) .o)))
def s119 (a0 : Value) (w : World) (K : Cont) : Prop :=
  newX 68 [Value.int IntKind.i64 0, Value.string { data := #[] }] w fun t1 w1 =>
  callX Tryd.prog 41 [a0] w1 fun t2 w2 =>
  extractX t2 0 fun t3 =>
  extractX t2 1 fun t4 =>
  joinX (α := Value → World → Prop)
  (fun t5 w3 =>
   brX t5
     (buildX [Value.int IntKind.i64 0, Value.string { data := #[] }] [] fun t6 =>
      storeNX 2 t1 t6 w3 fun w4 =>
      loadNX 2 t1 w4 fun t7 =>
      K (Value.tuple #[t7, Value.bool false]) w4)
   (indexSX 2 t3 (Value.int IntKind.i64 0) fun t8 =>
   loadNX 2 t8 w3 fun t9 =>
   storeNX 2 t1 t9 w3 fun w5 =>
   loadNX 2 t1 w5 fun t10 =>
   K (Value.tuple #[t10, Value.bool true]) w5))
  fun J1 =>
  lenSX t3 fun t11 =>
  neX EqK.num t11 (Value.int IntKind.i64 1) fun t12 =>
  brX t12
    (J1 (Value.bool true) w2)
  (lenStrX a0 fun t13 =>
  neX EqK.num t4 t13 fun t14 =>
  brX t14
    (J1 (Value.bool true) w2)
  (indexSX 2 t3 (Value.int IntKind.i64 0) fun t15 =>
  fieldAddrX 0 t15 fun t16 =>
  load1X t16 w2 fun t17 =>
  ltX t17 (Value.int IntKind.i64 1) fun t18 =>
  J1 t18 w2))
theorem e119 (a0 : Value) (w : World) (K : Cont) : fX Tryd.prog 119 an119 [a0] w K = s119 a0 w K := by kernel_rfl
theorem c119 (a0 : Value) (w : World) (K : Cont) (h : s119 a0 w K) : callX Tryd.prog 119 [a0] w K := fX_call mixed (e119 a0 w K) h

/-- (*berthing/snaps.Snaps).none -/
def an120 : Ann := .o
def s120 (a0 : Value) (w : World) (K : Cont) : Prop :=
  eqX EqK.ptr a0 (Value.pointer none) fun t1 =>
  brX t1
    (K (Value.bool true) w)
  (nilX a0 fun t2 =>
  fieldAddrX 0 t2 fun t3 =>
  load1X t3 w fun t4 =>
  eqX EqK.ptr t4 (Value.pointer none) fun t5 =>
  K t5 w)
theorem e120 (a0 : Value) (w : World) (K : Cont) : fX Tryd.prog 120 an120 [a0] w K = s120 a0 w K := by kernel_rfl
theorem c120 (a0 : Value) (w : World) (K : Cont) (h : s120 a0 w K) : callX Tryd.prog 120 [a0] w K := fX_call mixed (e120 a0 w K) h

/-- (*berthing/snaps.Snaps).next -/
def an121 : Ann := .o
def s121 (a0 : Value) (w : World) (K : Cont) : Prop :=
  nilX a0 fun t1 =>
  fieldAddrX 3 t1 fun t2 =>
  load1X t2 w fun t3 =>
  addX t3 (Value.int IntKind.i64 1) fun t4 =>
  remX t4 (Value.int IntKind.i64 2) fun t5 =>
  K t5 w
theorem e121 (a0 : Value) (w : World) (K : Cont) : fX Tryd.prog 121 an121 [a0] w K = s121 a0 w K := by kernel_rfl
theorem c121 (a0 : Value) (w : World) (K : Cont) (h : s121 a0 w K) : callX Tryd.prog 121 [a0] w K := fX_call mixed (e121 a0 w K) h

/-- (*berthing/snaps.Snaps).Save$1 -/
def an122 : Ann := .o
def s122 (a0 a1 a2 a3 : Value) (w : World) (K : Cont) : Prop :=
  load1X a1 w fun t1 =>
  load1X a0 w fun t2 =>
  neX EqK.num t2 (Value.int IntKind.i64 0) fun t3 =>
  nilX t1 fun t4 =>
  fieldAddrX 6 t4 fun t5 =>
  store1X t5 t3 w fun w1 =>
  load1X a1 w1 fun t6 =>
  nilX t6 fun t7 =>
  fieldAddrX 6 t7 fun t8 =>
  load1X t8 w1 fun t9 =>
  notX t9 fun t10 =>
  brX t10
    (load1X a1 w1 fun t11 =>
     load1X a1 w1 fun t12 =>
     load1X a2 w1 fun t13 =>
     loadNX 2 a3 w1 fun t14 =>
     nilX t11 fun t15 =>
     fieldAddrX 3 t15 fun t16 =>
     store1X t16 t13 w1 fun w2 =>
     nilX t12 fun t17 =>
     fieldAddrX 4 t17 fun t18 =>
     storeNX 2 t18 t14 w2 fun w3 =>
     K (Value.tuple #[]) w3)
  (K (Value.tuple #[]) w1)
theorem e122 (a0 a1 a2 a3 : Value) (w : World) (K : Cont) : fX Tryd.prog 122 an122 [a0, a1, a2, a3] w K = s122 a0 a1 a2 a3 w K := by kernel_rfl
theorem c122 (a0 a1 a2 a3 : Value) (w : World) (K : Cont) (h : s122 a0 a1 a2 a3 w K) : callX Tryd.prog 122 [a0, a1, a2, a3] w K := fX_call mixed (e122 a0 a1 a2 a3 w K) h

/-- (*berthing/snaps.Snaps).write -/
def an123 : Ann := .o
def s123 (a0 a1 a2 : Value) (w : World) (K : Cont) : Prop :=
  nilX a0 fun t1 =>
  fieldAddrX 0 t1 fun t2 =>
  load1X t2 w fun t3 =>
  callX Tryd.prog 68 [t3, a1] w fun t4 w1 =>
  neX EqK.num t4 (Value.int IntKind.i64 0) fun t5 =>
  brX t5
    (K t4 w1)
  (nilX a0 fun t6 =>
  fieldAddrX 0 t6 fun t7 =>
  load1X t7 w1 fun t8 =>
  callX Tryd.prog 57 [t8, a1, a2] w1 fun t9 w2 =>
  neX EqK.num t9 (Value.int IntKind.i64 0) fun t10 =>
  brX t10
    (K t9 w2)
  (nilX a0 fun t11 =>
  fieldAddrX 0 t11 fun t12 =>
  load1X t12 w2 fun t13 =>
  callX Tryd.prog 112 [t13, a1] w2 fun t14 w3 =>
  K t14 w3))
theorem e123 (a0 a1 a2 : Value) (w : World) (K : Cont) : fX Tryd.prog 123 an123 [a0, a1, a2] w K = s123 a0 a1 a2 w K := by kernel_rfl
theorem c123 (a0 a1 a2 : Value) (w : World) (K : Cont) (h : s123 a0 a1 a2 w K) : callX Tryd.prog 123 [a0, a1, a2] w K := fX_call mixed (e123 a0 a1 a2 w K) h

/-- berthing/snaps.Open -/
def an59 : Ann := (.n none .nil .o (.n none .nil .o (.n none .nil .o (.n none .nil (.n none .nil .o (.n none .nil (.n (some ([6, 7, 9, 10, 11, 12, 13, 14, 28, 29, 30, 31, 32, 33, 34, 35, 36, 37, 38, 39, 40, 41, 42, 43, 44, 45, 46, 47, 48, 49, 50, 51, 52, 53, 54, 55, 56, 57, 58, 59, 60, 61, 62, 63, 64, 65], [28])) .nil (.n none .nil .o (.n none .nil .o (.n none .nil (.n (some ([6, 7, 9, 10, 11, 12, 13, 14, 30, 31, 32, 33, 34, 35, 36, 37, 38, 39, 40, 41, 42, 43, 44, 45, 46, 47, 48, 49, 50, 51, 52, 53, 54, 55, 56, 57, 58, 59, 60, 61, 62, 63, 64], [])) .nil (.n none .nil .o (.n none .nil .o (.n none .nil .o (.n none .nil .o (.n none .nil (.n (some ([46, 47, 48, 49, 50, 51, 52, 53, 54, 55, 56], [56])) (.one 0 (.one 1 (.one 2 (.one 4 (.one 5 (.one 6 (.one 7 (.one 3 (.one 8 (.one 9 (.one 10 .nil))))))))))) .o .o) (.n none .nil (.n none (.one 0 (.one 1 (.one 2 (.one 4 (.one 5 (.one 3 (.eff (.alt 6 none (.one 7 (.one 8 (.eff (.alt 9 (some [8, 3, 6, 0, 1, 2, 4, 5, 7]) .nil .stop)))) .stop)))))))) .o .o) .o)))))) .o) .o))) .o) .o)) .o))))
def s59 (a0 a1 a2 : Value) (w : World) (K : Cont) : Prop :=
  eqX EqK.num a1 a2 fun t1 =>
  brX t1
    (K (Value.tuple #[Value.pointer none, Value.int IntKind.i64 2]) w)
  (buildX [Value.int IntKind.i64 0, Value.int IntKind.i64 0] [(0, 1, a1), (1, 1, a2)] fun t2 =>
  buildX [Value.pointer none, Value.int IntKind.i64 0, Value.int IntKind.i64 0, Value.int IntKind.i64 0, Value.int IntKind.i64 0, Value.slice none 0 0, Value.bool false] [(0, 1, a0), (1, 2, t2), (3, 1, Value.int IntKind.i64 (-1))] fun t3 =>
  boxX 117 t3 w fun t4 w1 =>
  nilX t4 fun t5 =>
  fieldAddrX 1 t5 fun t6 =>
  loadNX 2 t6 w1 fun t7 =>
  ∃ (I1 : Value → World → Prop), ∃ (m2 : Value → World → Nat), (I1 (Value.int IntKind.i64 0) w1 ∧
  ∀ (t8 : Value), ∀ (w2 : World), (I1 t8 w2 →
  ltX t8 (Value.int IntKind.i64 2) fun t9 =>
  brX t9
    (joinX (α := World → Prop)
     (fun w3 =>
      addX t8 (Value.int IntKind.i64 1) fun t10 =>
      (I1 t10 w3 ∧
      lessN (m2 t10 w3) (m2 t8 w2)))
     fun J3 =>
     indexVX 2 t7 t8 fun t11 =>
     callX Tryd.prog 58 [a0, t11] w2 fun t12 w4 =>
     extractX t12 0 fun t13 =>
     extractX t12 1 fun t14 =>
     neX EqK.num t14 (Value.int IntKind.i64 0) fun t15 =>
     brX t15
       (K (Value.tuple #[Value.pointer none, t14]) w4)
     (callX Tryd.prog 118 [t13] w4 fun t16 w5 =>
     extractX t16 0 fun t17 =>
     extractX t16 1 fun t18 =>
     newX 62 [Value.int IntKind.i64 0, Value.slice none 0 0] w5 fun t19 w6 =>
     storeNX 2 t19 t17 w6 fun w7 =>
     joinX (α := Value → World → Prop)
     (fun t20 w8 =>
      brX t20
        (∀ (w9 : World), (Drew w8 w9 →
         ∃ (S4 : World → Prop), (S4 w9 ∧
         nilX t4 fun t21 =>
         fieldAddrX 3 t21 fun t22 =>
         loadNH S4 2 t19 fun t23 =>
         store1X t22 t8 w9 fun w10 =>
         (S4 w10 ∧
         nilX t4 fun t24 =>
         fieldAddrX 4 t24 fun t25 =>
         storeNX 2 t25 t23 w10 fun w11 =>
         J3 w11))))
      (J3 w8))
     fun J5 =>
     ∀ (w12 : World), (Drew w7 w12 →
     ∃ (S6 : World → Prop), (S6 w12 ∧
     brX t18
       (fieldAddrX 0 t19 fun t26 =>
        nilX t4 fun t27 =>
        fieldAddrX 4 t27 fun t28 =>
        fieldAddrX 0 t28 fun t29 =>
        load1H S6 t26 fun t30 =>
        load1H S6 t29 fun t31 =>
        gtX t30 t31 fun t32 =>
        J5 t32 w12)
     (J5 (Value.bool false) w12)))))
  (K (Value.tuple #[t4, Value.int IntKind.i64 0]) w2))))
theorem e59 (a0 a1 a2 : Value) (w : World) (K : Cont) : fX Tryd.prog 59 an59 [a0, a1, a2] w K = s59 a0 a1 a2 w K := by kernel_rfl
theorem c59 (a0 a1 a2 : Value) (w : World) (K : Cont) (h : s59 a0 a1 a2 w K) : callX Tryd.prog 59 [a0, a1, a2] w K := fX_call mixed (e59 a0 a1 a2 w K) h

/-- berthing/berthingref06.Last -/
def an60 : Ann := (.n none .nil .o (.n none .nil .o (.n none .nil .o (.n none .nil (.n none .nil (.n (some ([20, 21, 22, 23, 24, 25, 26, 27, 28, 29, 30, 31], [31])) .nil .o .o) .o) .o))))
def s60 (a0 a1 : Value) (w : World) (K : Cont) : Prop :=
  newX 68 [Value.int IntKind.i64 0, Value.string { data := #[] }] w fun t1 w1 =>
  callX Tryd.prog 119 [a0] w1 fun t2 w2 =>
  extractX t2 0 fun t3 =>
  extractX t2 1 fun t4 =>
  newX 68 [Value.int IntKind.i64 0, Value.string { data := #[] }] w2 fun t5 w3 =>
  storeNX 2 t5 t3 w3 fun w4 =>
  callX Tryd.prog 119 [a1] w4 fun t6 w5 =>
  extractX t6 0 fun t7 =>
  extractX t6 1 fun t8 =>
  newX 68 [Value.int IntKind.i64 0, Value.string { data := #[] }] w5 fun t9 w6 =>
  storeNX 2 t9 t7 w6 fun w7 =>
  joinX (α := Value → World → Prop)
  (fun t10 w8 =>
   brX t10
     (loadNX 2 t5 w8 fun t11 =>
      storeNX 2 t1 t11 w8 fun w9 =>
      loadNX 2 t1 w9 fun t12 =>
      K (Value.tuple #[t12, Value.int IntKind.i64 0]) w9)
   (brX t8
     (loadNX 2 t9 w8 fun t13 =>
      storeNX 2 t1 t13 w8 fun w10 =>
      loadNX 2 t1 w10 fun t14 =>
      K (Value.tuple #[t14, Value.int IntKind.i64 1]) w10)
   (buildX [Value.int IntKind.i64 0, Value.string { data := #[] }] [] fun t15 =>
   storeNX 2 t1 t15 w8 fun w11 =>
   loadNX 2 t1 w11 fun t16 =>
   K (Value.tuple #[t16, Value.int IntKind.i64 (-1)]) w11)))
  fun J1 =>
  brX t4
    (notX t8 fun t17 =>
     brX t17
       (J1 (Value.bool true) w7)
     (fieldAddrX 0 t5 fun t18 =>
     load1X t18 w7 fun t19 =>
     fieldAddrX 0 t9 fun t20 =>
     load1X t20 w7 fun t21 =>
     geX t19 t21 fun t22 =>
     J1 t22 w7))
  (J1 (Value.bool false) w7)
theorem e60 (a0 a1 : Value) (w : World) (K : Cont) : fX Tryd.prog 60 an60 [a0, a1] w K = s60 a0 a1 w K := by kernel_rfl
theorem c60 (a0 a1 : Value) (w : World) (K : Cont) (h : s60 a0 a1 w K) : callX Tryd.prog 60 [a0, a1] w K := fX_call mixed (e60 a0 a1 w K) h

/-- (*berthing/snaps.Snaps).Last -/
def an61 : Ann := (.n none .nil .o (.n none .nil .o (.n none .nil (.n none (.one 0 (.one 1 (.one 2 (.one 3 (.one 6 (.one 7 (.one 8 (.one 9 (.one 4 (.one 10 (.eff (.alt 5 none (.one 11 (.one 12 .nil)) .stop)))))))))))) .o .o) .o)))
def s61 (a0 : Value) (w : World) (K : Cont) : Prop :=
  callX Tryd.prog 120 [a0] w fun t1 w1 =>
  brX t1
    (K (Value.tuple #[Value.slice none 0 0, Value.int IntKind.i64 0]) w1)
  (∀ (w2 : World), (Drew w1 w2 →
  ∃ (S1 : World → Prop), (S1 w2 ∧
  nilX a0 fun t2 =>
  fieldAddrX 4 t2 fun t3 =>
  fieldAddrX 1 t3 fun t4 =>
  nilX a0 fun t5 =>
  fieldAddrX 4 t5 fun t6 =>
  fieldAddrX 0 t6 fun t7 =>
  load1H S1 t4 fun t8 =>
  load1H S1 t7 fun t9 =>
  callX Tryd.prog 117 [t8] w2 fun t10 w3 =>
  (S1 w3 ∧
  K (Value.tuple #[t10, t9]) w3))))
theorem e61 (a0 : Value) (w : World) (K : Cont) : fX Tryd.prog 61 an61 [a0] w K = s61 a0 w K := by kernel_rfl
theorem c61 (a0 : Value) (w : World) (K : Cont) (h : s61 a0 w K) : callX Tryd.prog 61 [a0] w K := fX_call mixed (e61 a0 w K) h

/-- (*berthing/snaps.Snaps).Slot -/
def an62 : Ann := (.n none .nil .o (.n none .nil (.n none .nil (.n (some ([3, 4, 5, 6, 7, 8, 9, 10, 11], [11])) .nil .o .o) .o) (.n none .nil (.n none (.one 0 (.one 1 (.one 2 (.one 3 (.one 5 (.one 6 (.one 4 (.one 7 (.one 8 (.one 9 .nil)))))))))) .o .o) .o)))
def s62 (a0 : Value) (w : World) (K : Cont) : Prop :=
  joinX (α := Value → World → Prop)
  (fun t1 w1 =>
   brX t1
     (K (Value.int IntKind.i64 (-1)) w1)
   (∀ (w2 : World), (Drew w1 w2 →
   ∃ (S1 : World → Prop), (S1 w2 ∧
   nilX a0 fun t2 =>
   fieldAddrX 3 t2 fun t3 =>
   nilX a0 fun t4 =>
   fieldAddrX 1 t4 fun t5 =>
   load1H S1 t3 fun t6 =>
   indexAX 2 1 t5 t6 fun t7 =>
   load1H S1 t7 fun t8 =>
   K t8 w2))))
  fun J2 =>
  callX Tryd.prog 120 [a0] w fun t9 w3 =>
  brX t9
    (J2 (Value.bool true) w3)
  (nilX a0 fun t10 =>
  fieldAddrX 3 t10 fun t11 =>
  load1X t11 w3 fun t12 =>
  ltX t12 (Value.int IntKind.i64 0) fun t13 =>
  J2 t13 w3)
theorem e62 (a0 : Value) (w : World) (K : Cont) : fX Tryd.prog 62 an62 [a0] w K = s62 a0 w K := by kernel_rfl
theorem c62 (a0 : Value) (w : World) (K : Cont) (h : s62 a0 w K) : callX Tryd.prog 62 [a0] w K := fX_call mixed (e62 a0 w K) h

/-- berthing/berthinglaw06.one -/
def an63 : Ann := .o
def s63 (w : World) (K : Cont) : Prop :=
  callX Tryd.prog 50 [] w fun t1 w1 =>
  callX Tryd.prog 59 [t1, Value.int IntKind.i64 1, Value.int IntKind.i64 2] w1 fun t2 w2 =>
  extractX t2 0 fun t3 =>
  extractX t2 1 fun t4 =>
  buildSX 5 1 [Value.int IntKind.u8 97] w2 fun t5 w3 =>
  markX t5 w3 fun t6 w4 =>
  callX Tryd.prog 64 [t3, t6] w4 fun t7 w5 =>
  buildSX 5 1 [Value.int IntKind.u8 98] w5 fun t8 w6 =>
  markX t8 w6 fun t9 w7 =>
  callX Tryd.prog 64 [t3, t9] w7 fun t10 w8 =>
  callX Tryd.prog 59 [t1, Value.int IntKind.i64 1, Value.int IntKind.i64 2] w8 fun t11 w9 =>
  extractX t11 0 fun t12 =>
  extractX t11 1 fun t13 =>
  callX Tryd.prog 61 [t12] w9 fun t14 w10 =>
  extractX t14 0 fun t15 =>
  extractX t14 1 fun t16 =>
  eqX EqK.num t4 (Value.int IntKind.i64 0) fun t17 =>
  brX t17
    (eqX EqK.num t7 (Value.int IntKind.i64 0) fun t18 =>
     brX t18
       (eqX EqK.num t10 (Value.int IntKind.i64 0) fun t19 =>
        brX t19
          (eqX EqK.num t13 (Value.int IntKind.i64 0) fun t20 =>
           brX t20
             (strX t15 w10 fun t21 =>
              eqX EqK.str t21 (Value.string { data := #[98] }) fun t22 =>
              brX t22
                (eqX EqK.num t16 (Value.int IntKind.i64 2) fun t23 =>
                 brX t23
                   (callX Tryd.prog 62 [t12] w10 fun t24 w11 =>
                    eqX EqK.num t24 (Value.int IntKind.i64 2) fun t25 =>
                    K t25 w11)
                 (K (Value.bool false) w10))
              (K (Value.bool false) w10))
           (K (Value.bool false) w10))
        (K (Value.bool false) w10))
     (K (Value.bool false) w10))
  (K (Value.bool false) w10)
theorem e63 (w : World) (K : Cont) : fX Tryd.prog 63 an63 [] w K = s63 w K := by kernel_rfl
theorem c63 (w : World) (K : Cont) (h : s63 w K) : callX Tryd.prog 63 [] w K := fX_call mixed (e63 w K) h

/-- (*berthing/snaps.Snaps).Save -/
def an64 : Ann := (.n none .nil .o (.n none .nil .o (.n none .nil (.n none (.one 6 (.one 0 (.one 1 (.one 2 (.one 3 (.one 4 (.one 5 (.eff (.alt 7 none (.one 8 (.eff (.alt 9 none (.eff (.alt 10 (some [9, 8, 7, 0, 1, 2, 3, 4, 5, 6]) .nil .stop)) .stop))) (.alt 9 none (.eff (.alt 7 none (.one 8 (.eff (.alt 10 (some [9, 8, 7, 0, 1, 2, 3, 4, 5, 6]) .nil .stop))) .stop)) .stop)))))))))) .o .o) (.n none .nil .o (.n none .nil .o (.n none .nil .o (.n none .nil .o (.n none .nil (.n none (.one 7 (.one 0 (.one 1 (.one 3 (.one 4 (.one 2 (.one 5 (.one 6 (.eff (.alt 8 (some [0, 6, 7, 5, 4, 2, 3, 1]) (.eff (.alt 9 (some [8, 0, 1, 2, 3, 4, 5, 6, 7]) .nil .stop)) .stop)))))))))) .o .o) .o))))))))
def s64 (a0 a1 : Value) (w : World) (K : Cont) : Prop :=
  boxX 107 a0 w fun t1 w1 =>
  newX 34 [Value.int IntKind.i64 0] w1 fun t2 w2 =>
  load1X t1 w2 fun t3 =>
  callX Tryd.prog 120 [t3] w2 fun t4 w3 =>
  brX t4
    (store1X t2 (Value.int IntKind.i64 1) w3 fun w4 =>
     load1X t2 w4 fun t5 =>
     K t5 w4)
  (load1X t1 w3 fun t6 =>
  nilX t6 fun t7 =>
  fieldAddrX 6 t7 fun t8 =>
  load1X t8 w3 fun t9 =>
  brX t9
    (store1X t2 (Value.int IntKind.i64 16) w3 fun w5 =>
     load1X t2 w5 fun t10 =>
     K t10 w5)
  (lenSX a1 fun t11 =>
  gtX t11 (Value.int IntKind.i64 65536) fun t12 =>
  brX t12
    (store1X t2 (Value.int IntKind.i64 3) w3 fun w6 =>
     load1X t2 w6 fun t13 =>
     K t13 w6)
  (load1X t1 w3 fun t14 =>
  nilX t14 fun t15 =>
  fieldAddrX 4 t15 fun t16 =>
  fieldAddrX 0 t16 fun t17 =>
  load1X t17 w3 fun t18 =>
  geX t18 (Value.int IntKind.i64 4611686018427387904) fun t19 =>
  brX t19
    (store1X t2 (Value.int IntKind.i64 15) w3 fun w7 =>
     load1X t2 w7 fun t20 =>
     K t20 w7)
  (∀ (w8 : World), (Drew w3 w8 →
  ∃ (S1 : World → Prop), (S1 w8 ∧
  load1H S1 t1 fun t21 =>
  nilX t21 fun t22 =>
  fieldAddrX 4 t22 fun t23 =>
  fieldAddrX 0 t23 fun t24 =>
  load1H S1 t24 fun t25 =>
  addX t25 (Value.int IntKind.i64 1) fun t26 =>
  ((callX Tryd.prog 117 [a1] w8 fun t27 w9 =>
  (S1 w9 ∧
  buildX [Value.int IntKind.i64 0, Value.slice none 0 0] [(0, 1, t26), (1, 1, t27)] fun t28 =>
  newX 62 [Value.int IntKind.i64 0, Value.slice none 0 0] w9 fun t29 w10 =>
  (S1 w10 ∧
  storeNX 2 t29 t28 w10 fun w11 =>
  load1X t1 w11 fun t30 =>
  callX Tryd.prog 121 [t30] w11 fun t31 w12 =>
  newX 3 [Value.int IntKind.i64 0] w12 fun t32 w13 =>
  store1X t32 t31 w13 fun w14 =>
  loadNX 2 t29 w14 fun t33 =>
  callX Tryd.prog 37 [t33] w14 fun t34 w15 =>
  extractX t34 0 fun t35 =>
  extractX t34 1 fun t36 =>
  store1X t2 t36 w15 fun w16 =>
  load1X t2 w16 fun t37 =>
  neX EqK.num t37 (Value.int IntKind.i64 0) fun t38 =>
  brX t38
    (load1X t2 w16 fun t39 =>
     store1X t2 t39 w16 fun w17 =>
     callDX Tryd.prog 122 [t2, t1, t32, t29] w17 fun t40 w18 =>
     load1X t2 w18 fun t41 =>
     K t41 w18)
  (∀ (w19 : World), (Drew w16 w19 →
  ∃ (S2 : World → Prop), (S2 w19 ∧
  load1H S2 t1 fun t42 =>
  load1H S2 t1 fun t43 =>
  nilX t43 fun t44 =>
  fieldAddrX 1 t44 fun t45 =>
  load1H S2 t32 fun t46 =>
  indexAX 2 1 t45 t46 fun t47 =>
  load1H S2 t47 fun t48 =>
  callX Tryd.prog 123 [t42, t48, t35] w19 fun t49 w20 =>
  store1X t2 t49 w20 fun w21 =>
  callDX Tryd.prog 122 [t2, t1, t32, t29] w21 fun t50 w22 =>
  load1X t2 w22 fun t51 =>
  K t51 w22)))))) ∧
  newX 62 [Value.int IntKind.i64 0, Value.slice none 0 0] w8 fun t52 w23 =>
  (S1 w23 ∧
  callX Tryd.prog 117 [a1] w23 fun t53 w24 =>
  (S1 w24 ∧
  buildX [Value.int IntKind.i64 0, Value.slice none 0 0] [(0, 1, t26), (1, 1, t53)] fun t54 =>
  storeNX 2 t52 t54 w24 fun w25 =>
  load1X t1 w25 fun t55 =>
  callX Tryd.prog 121 [t55] w25 fun t56 w26 =>
  newX 3 [Value.int IntKind.i64 0] w26 fun t57 w27 =>
  store1X t57 t56 w27 fun w28 =>
  loadNX 2 t52 w28 fun t58 =>
  callX Tryd.prog 37 [t58] w28 fun t59 w29 =>
  extractX t59 0 fun t60 =>
  extractX t59 1 fun t61 =>
  store1X t2 t61 w29 fun w30 =>
  load1X t2 w30 fun t62 =>
  neX EqK.num t62 (Value.int IntKind.i64 0) fun t63 =>
  brX t63
    (load1X t2 w30 fun t64 =>
     store1X t2 t64 w30 fun w31 =>
     callDX Tryd.prog 122 [t2, t1, t57, t52] w31 fun t65 w32 =>
     load1X t2 w32 fun t66 =>
     K t66 w32)
  (∀ (w33 : World), (Drew w30 w33 →
  ∃ (S3 : World → Prop), (S3 w33 ∧
  load1H S3 t1 fun t67 =>
  load1H S3 t1 fun t68 =>
  nilX t68 fun t69 =>
  fieldAddrX 1 t69 fun t70 =>
  load1H S3 t57 fun t71 =>
  indexAX 2 1 t70 t71 fun t72 =>
  load1H S3 t72 fun t73 =>
  callX Tryd.prog 123 [t67, t73, t60] w33 fun t74 w34 =>
  store1X t2 t74 w34 fun w35 =>
  callDX Tryd.prog 122 [t2, t1, t57, t52] w35 fun t75 w36 =>
  load1X t2 w36 fun t76 =>
  K t76 w36))))))))))))
theorem e64 (a0 a1 : Value) (w : World) (K : Cont) : fDX Tryd.prog 64 an64 [a0, a1] w K = s64 a0 a1 w K := by kernel_rfl
theorem c64 (a0 a1 : Value) (w : World) (K : Cont) (h : s64 a0 a1 w K) : callX Tryd.prog 64 [a0, a1] w K := fDX_call mixed (e64 a0 a1 w K) h

end Go.Proofs.YtgnmelnohclpgaaDoor
