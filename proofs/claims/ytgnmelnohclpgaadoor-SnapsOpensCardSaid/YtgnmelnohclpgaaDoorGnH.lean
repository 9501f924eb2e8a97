/- The journal's log: its functions, their meanings. -/
import Derived.Test.YtgnmelnohclpgaaDoorSxS
set_option linter.unusedVariables false
namespace Go.Proofs.YtgnmelnohclpgaaDoor
open Go

/-- (*berthing/journal.Log).none -/
def an111 : Ann := .o
def s111 (a0 : Value) (w : World) (K : Cont) : Prop :=
  eqX EqK.ptr a0 (Value.pointer none) fun t1 =>
  brX t1
    (K (Value.bool true) w)
  (nilX a0 fun t2 =>
  fieldAddrX 0 t2 fun t3 =>
  load1X t3 w fun t4 =>
  eqX EqK.ptr t4 (Value.pointer none) fun t5 =>
  K t5 w)
theorem e111 (a0 : Value) (w : World) (K : Cont) : fX Tryd.prog 111 an111 [a0] w K = s111 a0 w K := by kernel_rfl
theorem c111 (a0 : Value) (w : World) (K : Cont) (h : s111 a0 w K) : callX Tryd.prog 111 [a0] w K := fX_call mixed (e111 a0 w K) h

/-- berthing/journal.Open -/
def an51 : Ann := .o
def s51 (a0 a1 : Value) (w : World) (K : Cont) : Prop :=
  callX Tryd.prog 58 [a0, a1] w fun t1 w1 =>
  extractX t1 0 fun t2 =>
  extractX t1 1 fun t3 =>
  neX EqK.num t3 (Value.int IntKind.i64 0) fun t4 =>
  brX t4
    (K (Value.tuple #[Value.pointer none, t3]) w1)
  (callX Tryd.prog 40 [t2] w1 fun t5 w2 =>
  extractX t5 0 fun t6 =>
  extractX t5 1 fun t7 =>
  lenSX t2 fun t8 =>
  ltX t7 t8 fun t9 =>
  buildX [Value.pointer none, Value.int IntKind.i64 0, Value.slice none 0 0, Value.int IntKind.i64 0, Value.bool false, Value.bool false] [(0, 1, a0), (1, 1, a1), (2, 1, t6), (3, 1, t7), (4, 1, t9)] fun t10 =>
  boxX 99 t10 w2 fun t11 w3 =>
  K (Value.tuple #[t11, Value.int IntKind.i64 0]) w3)
theorem e51 (a0 a1 : Value) (w : World) (K : Cont) : fX Tryd.prog 51 an51 [a0, a1] w K = s51 a0 a1 w K := by kernel_rfl
theorem c51 (a0 a1 : Value) (w : World) (K : Cont) (h : s51 a0 a1 w K) : callX Tryd.prog 51 [a0, a1] w K := fX_call mixed (e51 a0 a1 w K) h

/-- (*berthing/journal.Log).Add -/
def an52 : Ann := (.n none .nil .o (.n none .nil (.n none .nil (.n none .nil .o (.n none .nil .o (.n none .nil (.n (some ([10, 11, 12, 13, 14, 15, 16, 17, 18, 19, 20], [10])) .nil .o .o) .o))) .o) (.n none .nil .o (.n none .nil .o (.n none .nil (.n none (.one 0 (.one 1 (.one 2 (.one 4 (.one 5 (.one 6 (.one 8 (.one 3 (.one 7 (.eff (.alt 9 (some [3, 7, 8, 2, 6, 1, 5, 0, 4]) (.one 10 .nil) .stop))))))))))) .o .o) (.n none .nil (.n none .nil .o (.n (some ([6, 41, 42, 43, 44, 45, 46, 47, 48, 49], [6])) .nil (.n none (.one 0 (.one 1 (.one 2 (.one 4 (.one 5 (.one 6 (.one 3 (.one 7 (.eff (.alt 8 (some [3, 7, 2, 6, 1, 5, 0, 4]) (.one 9 .nil) .stop)))))))))) .o .o) .o)) (.n none .nil .o (.n none .nil (.n none (.one 0 (.one 1 (.one 2 (.one 3 (.one 5 (.one 8 (.one 4 (.one 6 (.one 9 (.eff (.alt 7 none (.eff (.alt 10 none (.one 11 (.eff (.alt 12 none (.eff (.alt 13 (some [4, 12, 10, 3, 11, 7, 9, 2, 6, 8, 1, 5]) (.one 14 (.one 15 (.eff (.alt 16 (some [15, 13, 0, 1, 2, 3, 4, 5, 6, 7, 8, 9, 10, 11, 12, 14]) .nil .stop)))) .stop)) .stop))) .stop)) .stop))))))))))) .o .o) .o))))))))
def s52 (a0 a1 : Value) (w : World) (K : Cont) : Prop :=
  boxX 62 a1 w fun t1 w1 =>
  callX Tryd.prog 111 [a0] w1 fun t2 w2 =>
  brX t2
    (K (Value.int IntKind.i64 1) w2)
  (joinX (α := Value → World → Prop)
  (fun t3 w3 =>
   brX t3
     (K (Value.int IntKind.i64 16) w3)
   (loadNX 2 t1 w3 fun t4 =>
   callX Tryd.prog 37 [t4] w3 fun t5 w4 =>
   extractX t5 0 fun t6 =>
   extractX t5 1 fun t7 =>
   neX EqK.num t7 (Value.int IntKind.i64 0) fun t8 =>
   brX t8
     (K t7 w4)
   (∀ (w5 : World), (Drew w4 w5 →
   ∃ (S1 : World → Prop), (S1 w5 ∧
   nilX a0 fun t9 =>
   fieldAddrX 0 t9 fun t10 =>
   nilX a0 fun t11 =>
   fieldAddrX 1 t11 fun t12 =>
   load1H S1 t10 fun t13 =>
   load1H S1 t12 fun t14 =>
   callX Tryd.prog 57 [t13, t14, t6] w5 fun t15 w6 =>
   eqX EqK.num t15 (Value.int IntKind.i64 0) fun t16 =>
   joinX (α := Value → World → Prop)
   (fun t17 w7 =>
    neX EqK.num t17 (Value.int IntKind.i64 0) fun t18 =>
    brX t18
      (nilX a0 fun t19 =>
       fieldAddrX 5 t19 fun t20 =>
       store1X t20 (Value.bool true) w7 fun w8 =>
       K t17 w8)
    (∀ (w9 : World), (Drew w7 w9 →
    ∃ (S2 : World → Prop), (S2 w9 ∧
    nilX a0 fun t21 =>
    fieldAddrX 2 t21 fun t22 =>
    fieldAddrX 0 t1 fun t23 =>
    fieldAddrX 1 t1 fun t24 =>
    load1H S2 t22 fun t25 =>
    load1H S2 t23 fun t26 =>
    load1H S2 t24 fun t27 =>
    buildSX 5 1 [] w9 fun t28 w10 =>
    (S2 w10 ∧
    appendX 5 1 1 [Value.int IntKind.u8 0] t28 t27 w10 fun t29 w11 =>
    (S2 w11 ∧
    buildX [Value.int IntKind.i64 0, Value.slice none 0 0] [(0, 1, t26), (1, 1, t29)] fun t30 =>
    buildSX 62 2 [t30] w11 fun t31 w12 =>
    (S2 w12 ∧
    appendX 62 2 32 [Value.int IntKind.i64 0, Value.slice none 0 0] t25 t31 w12 fun t32 w13 =>
    nilX a0 fun t33 =>
    fieldAddrX 2 t33 fun t34 =>
    store1X t34 t32 w13 fun w14 =>
    nilX a0 fun t35 =>
    fieldAddrX 3 t35 fun t36 =>
    load1X t36 w14 fun t37 =>
    lenSX t6 fun t38 =>
    addX t37 t38 fun t39 =>
    nilX a0 fun t40 =>
    fieldAddrX 3 t40 fun t41 =>
    store1X t41 t39 w14 fun w15 =>
    K (Value.int IntKind.i64 0) w15)))))))
   fun J3 =>
   brX t16
     (∀ (w16 : World), (Drew w6 w16 →
      ∃ (S4 : World → Prop), (S4 w16 ∧
      nilX a0 fun t42 =>
      fieldAddrX 0 t42 fun t43 =>
      nilX a0 fun t44 =>
      fieldAddrX 1 t44 fun t45 =>
      load1H S4 t43 fun t46 =>
      load1H S4 t45 fun t47 =>
      callX Tryd.prog 112 [t46, t47] w16 fun t48 w17 =>
      J3 t48 w17)))
   (J3 t15 w6))))))
  fun J5 =>
  nilX a0 fun t49 =>
  fieldAddrX 4 t49 fun t50 =>
  load1X t50 w2 fun t51 =>
  brX t51
    (J5 (Value.bool true) w2)
  (nilX a0 fun t52 =>
  fieldAddrX 5 t52 fun t53 =>
  load1X t53 w2 fun t54 =>
  J5 t54 w2))
theorem e52 (a0 a1 : Value) (w : World) (K : Cont) : fX Tryd.prog 52 an52 [a0, a1] w K = s52 a0 a1 w K := by kernel_rfl
theorem c52 (a0 a1 : Value) (w : World) (K : Cont) (h : s52 a0 a1 w K) : callX Tryd.prog 52 [a0, a1] w K := fX_call mixed (e52 a0 a1 w K) h

/-- (*berthing/journal.Log).Of -/
def an113 : Ann := .o
def s113 (a0 a1 : Value) (w : World) (K : Cont) : Prop :=
  boxX 90 a0 w fun t1 w1 =>
  boxX 2 a1 w1 fun t2 w2 =>
  K (Value.func (Fn.func 166) #[] #[t1, t2]) w2
theorem e113 (a0 a1 : Value) (w : World) (K : Cont) : fX Tryd.prog 113 an113 [a0, a1] w K = s113 a0 a1 w K := by kernel_rfl
theorem c113 (a0 a1 : Value) (w : World) (K : Cont) (h : s113 a0 a1 w K) : callX Tryd.prog 113 [a0, a1] w K := fX_call mixed (e113 a0 a1 w K) h

/-- (*berthing/journal.Log).Of$1 -/
def an166 : Ann := (.n none .nil .o (.n none .nil .o (.n none .nil (.n (some ([5, 13, 14, 15, 16, 17, 18, 19, 20, 21, 22, 23, 24, 25, 26, 27, 28, 29, 30], [13])) .nil (.n none .nil .o (.n none .nil .o (.n none .nil (.n none .nil (.n none .nil .o (.n none .nil (.n (some ([17, 18, 19, 20, 21, 22, 23, 24, 25, 26, 27, 28, 29], [29])) .nil .o .o) .o)) .o) .o))) .o) .o)))
def s166 (a0 a1 a2 : Value) (w : World) (K : Cont) : Prop :=
  load1X a1 w fun t1 =>
  eqX EqK.ptr t1 (Value.pointer none) fun t2 =>
  brX t2
    (K (Value.tuple #[]) w)
  (load1X a1 w fun t3 =>
  nilX t3 fun t4 =>
  fieldAddrX 2 t4 fun t5 =>
  load1X t5 w fun t6 =>
  lenSX t6 fun t7 =>
  ∃ (I1 : Value → World → Prop), ∃ (m2 : Value → World → Nat), (I1 (Value.int IntKind.i64 0) w ∧
  ∀ (t8 : Value), ∀ (w1 : World), (I1 t8 w1 →
  ltX t8 t7 fun t9 =>
  brX t9
    (indexSX 2 t6 t8 fun t10 =>
     loadNX 2 t10 w1 fun t11 =>
     newX 62 [Value.int IntKind.i64 0, Value.slice none 0 0] w1 fun t12 w2 =>
     storeNX 2 t12 t11 w2 fun w3 =>
     joinX (α := Value → World → Prop)
     (fun t13 w4 =>
      brX t13
        (K (Value.tuple #[]) w4)
      (addX t8 (Value.int IntKind.i64 1) fun t14 =>
      (I1 t14 w4 ∧
      lessN (m2 t14 w4) (m2 t8 w1))))
     fun J3 =>
     fieldAddrX 0 t12 fun t15 =>
     load1X t15 w3 fun t16 =>
     load1X a2 w3 fun t17 =>
     eqX EqK.num t16 t17 fun t18 =>
     brX t18
       (buildSX 5 1 [] w3 fun t19 w5 =>
        fieldAddrX 1 t12 fun t20 =>
        load1X t20 w5 fun t21 =>
        appendX 5 1 1 [Value.int IntKind.u8 0] t19 t21 w5 fun t22 w6 =>
        fvX Tryd.prog a0 [t22] w6 fun t23 w7 =>
        notX t23 fun t24 =>
        J3 t24 w7)
     (J3 (Value.bool false) w3))
  (K (Value.tuple #[]) w1))))
theorem e166 (a0 a1 a2 : Value) (w : World) (K : Cont) : fX Tryd.prog 166 an166 [a0, a1, a2] w K = s166 a0 a1 a2 w K := by kernel_rfl
theorem c166 (a0 a1 a2 : Value) (w : World) (K : Cont) (h : s166 a0 a1 a2 w K) : callX Tryd.prog 166 [a0, a1, a2] w K := fX_call mixed (e166 a0 a1 a2 w K) h

/-- berthing/berthinglaw05.Texts -/
def an53 : Ann := .o
def s53 (a0 a1 : Value) (w : World) (K : Cont) : Prop :=
  newX 93 [Value.slice none 0 0] w fun t1 w1 =>
  callX Tryd.prog 113 [a0, a1] w1 fun t2 w2 =>
  eqX EqK.func t2 Value.nilFunc fun t3 =>
  brX t3
    (buildSX 9 1 [Value.string { data := #[110, 111, 110, 101] }] w2 fun t4 w3 =>
     K t4 w3)
  (fvX Tryd.prog t2 [Value.func (Fn.func 114) #[] #[t1]] w2 fun t5 w4 =>
  load1X t1 w4 fun t6 =>
  K t6 w4)
theorem e53 (a0 a1 : Value) (w : World) (K : Cont) : fX Tryd.prog 53 an53 [a0, a1] w K = s53 a0 a1 w K := by kernel_rfl
theorem c53 (a0 a1 : Value) (w : World) (K : Cont) (h : s53 a0 a1 w K) : callX Tryd.prog 53 [a0, a1] w K := fX_call mixed (e53 a0 a1 w K) h

/-- berthing/berthinglaw05.Texts$1 -/
def an114 : Ann := .o
def s114 (a0 a1 : Value) (w : World) (K : Cont) : Prop :=
  load1X a1 w fun t1 =>
  strX a0 w fun t2 =>
  buildSX 9 1 [t2] w fun t3 w1 =>
  appendX 9 1 16 [Value.string { data := #[] }] t1 t3 w1 fun t4 w2 =>
  store1X a1 t4 w2 fun w3 =>
  load1X a1 w3 fun t5 =>
  lenSX t5 fun t6 =>
  ltX t6 (Value.int IntKind.i64 1000) fun t7 =>
  K t7 w3
theorem e114 (a0 a1 : Value) (w : World) (K : Cont) : fX Tryd.prog 114 an114 [a0, a1] w K = s114 a0 a1 w K := by kernel_rfl
theorem c114 (a0 a1 : Value) (w : World) (K : Cont) (h : s114 a0 a1 w K) : callX Tryd.prog 114 [a0, a1] w K := fX_call mixed (e114 a0 a1 w K) h

/-- (*berthing/journal.Log).Len -/
def an54 : Ann := .o
def s54 (a0 : Value) (w : World) (K : Cont) : Prop :=
  eqX EqK.ptr a0 (Value.pointer none) fun t1 =>
  brX t1
    (K (Value.int IntKind.i64 0) w)
  (nilX a0 fun t2 =>
  fieldAddrX 3 t2 fun t3 =>
  load1X t3 w fun t4 =>
  K t4 w)
theorem e54 (a0 : Value) (w : World) (K : Cont) : fX Tryd.prog 54 an54 [a0] w K = s54 a0 w K := by kernel_rfl
theorem c54 (a0 : Value) (w : World) (K : Cont) (h : s54 a0 w K) : callX Tryd.prog 54 [a0] w K := fX_call mixed (e54 a0 w K) h

/-- (*berthing/journal.Log).Clear -/
def an55 : Ann := (.n none .nil .o (.n none .nil .o (.n none .nil (.n none .nil (.n none (.one 0 (.one 1 (.one 2 (.one 4 (.one 5 (.one 6 (.one 3 (.one 7 (.eff (.alt 8 (some [3, 7, 2, 6, 1, 5, 0, 4]) (.one 9 .nil) .stop)))))))))) .o .o) .o) (.n none .nil (.n none (.one 0 (.one 1 (.one 2 (.one 3 (.one 5 (.one 6 (.one 7 (.one 4 (.one 8 (.one 9 (.one 10 (.eff (.alt 11 (some [10, 9, 0, 1, 2, 3, 4, 5, 6, 7, 8]) .nil .stop))))))))))))) .o .o) .o))))
def s55 (a0 : Value) (w : World) (K : Cont) : Prop :=
  callX Tryd.prog 111 [a0] w fun t1 w1 =>
  brX t1
    (K (Value.int IntKind.i64 1) w1)
  (∀ (w2 : World), (Drew w1 w2 →
  ∃ (S1 : World → Prop), (S1 w2 ∧
  nilX a0 fun t2 =>
  fieldAddrX 0 t2 fun t3 =>
  nilX a0 fun t4 =>
  fieldAddrX 1 t4 fun t5 =>
  load1H S1 t3 fun t6 =>
  load1H S1 t5 fun t7 =>
  callX Tryd.prog 68 [t6, t7] w2 fun t8 w3 =>
  neX EqK.num t8 (Value.int IntKind.i64 0) fun t9 =>
  brX t9
    (nilX a0 fun t10 =>
     fieldAddrX 5 t10 fun t11 =>
     store1X t11 (Value.bool true) w3 fun w4 =>
     K t8 w4)
  (∀ (w5 : World), (Drew w3 w5 →
  ∃ (S2 : World → Prop), (S2 w5 ∧
  nilX a0 fun t12 =>
  fieldAddrX 0 t12 fun t13 =>
  nilX a0 fun t14 =>
  fieldAddrX 1 t14 fun t15 =>
  load1H S2 t13 fun t16 =>
  load1H S2 t15 fun t17 =>
  buildX [Value.pointer none, Value.int IntKind.i64 0, Value.slice none 0 0, Value.int IntKind.i64 0, Value.bool false, Value.bool false] [(0, 1, t16), (1, 1, t17)] fun t18 =>
  nilX a0 fun t19 =>
  storeNX 6 t19 t18 w5 fun w6 =>
  K (Value.int IntKind.i64 0) w6))))))
theorem e55 (a0 : Value) (w : World) (K : Cont) : fX Tryd.prog 55 an55 [a0] w K = s55 a0 w K := by kernel_rfl
theorem c55 (a0 : Value) (w : World) (K : Cont) (h : s55 a0 w K) : callX Tryd.prog 55 [a0] w K := fX_call mixed (e55 a0 w K) h

/-- (*berthing/journal.Log).Torn -/
def an56 : Ann := .o
def s56 (a0 : Value) (w : World) (K : Cont) : Prop :=
  neX EqK.ptr a0 (Value.pointer none) fun t1 =>
  brX t1
    (nilX a0 fun t2 =>
     fieldAddrX 4 t2 fun t3 =>
     load1X t3 w fun t4 =>
     K t4 w)
  (K (Value.bool false) w)
theorem e56 (a0 : Value) (w : World) (K : Cont) : fX Tryd.prog 56 an56 [a0] w K = s56 a0 w K := by kernel_rfl
theorem c56 (a0 : Value) (w : World) (K : Cont) (h : s56 a0 w K) : callX Tryd.prog 56 [a0] w K := fX_call mixed (e56 a0 w K) h

/-- berthing/berthinglaw05.one -/
def an42 : Ann := .o
def s42 (w : World) (K : Cont) : Prop :=
  callX Tryd.prog 50 [] w fun t1 w1 =>
  callX Tryd.prog 51 [t1, Value.int IntKind.i64 0] w1 fun t2 w2 =>
  extractX t2 0 fun t3 =>
  extractX t2 1 fun t4 =>
  buildSX 5 1 [Value.int IntKind.u8 97] w2 fun t5 w3 =>
  markX t5 w3 fun t6 w4 =>
  buildX [Value.int IntKind.i64 0, Value.slice none 0 0] [(0, 1, Value.int IntKind.i64 5), (1, 1, t6)] fun t7 =>
  callX Tryd.prog 52 [t3, t7] w4 fun t8 w5 =>
  callX Tryd.prog 51 [t1, Value.int IntKind.i64 0] w5 fun t9 w6 =>
  extractX t9 0 fun t10 =>
  extractX t9 1 fun t11 =>
  callX Tryd.prog 53 [t10, Value.int IntKind.i64 5] w6 fun t12 w7 =>
  eqX EqK.num t4 (Value.int IntKind.i64 0) fun t13 =>
  brX t13
    (eqX EqK.num t8 (Value.int IntKind.i64 0) fun t14 =>
     brX t14
       (eqX EqK.num t11 (Value.int IntKind.i64 0) fun t15 =>
        brX t15
          (lenSX t12 fun t16 =>
           eqX EqK.num t16 (Value.int IntKind.i64 1) fun t17 =>
           brX t17
             (indexSX 1 t12 (Value.int IntKind.i64 0) fun t18 =>
              load1X t18 w7 fun t19 =>
              eqX EqK.str t19 (Value.string { data := #[97] }) fun t20 =>
              brX t20
                (callX Tryd.prog 54 [t10] w7 fun t21 w8 =>
                 eqX EqK.num t21 (Value.int IntKind.i64 10) fun t22 =>
                 K t22 w8)
              (K (Value.bool false) w7))
           (K (Value.bool false) w7))
        (K (Value.bool false) w7))
     (K (Value.bool false) w7))
  (K (Value.bool false) w7)
theorem e42 (w : World) (K : Cont) : fX Tryd.prog 42 an42 [] w K = s42 w K := by kernel_rfl
theorem c42 (w : World) (K : Cont) (h : s42 w K) : callX Tryd.prog 42 [] w K := fX_call mixed (e42 w K) h

end Go.Proofs.YtgnmelnohclpgaaDoor
