/- Meanings of functions: fleet -/
import Derived.Test.YtgnmelnohclpgaaDoorSxS
set_option linter.unusedVariables false
namespace Go.Proofs.YtgnmelnohclpgaaDoor
open Go

/-- (*berthing/fleet.Fleet).Node -/
def an18 : Ann := .o
def s18 (a0 a1 : Value) (w : World) (K : Cont) : Prop :=
  newX 33 [Value.int IntKind.i64 0, Value.int IntKind.i64 0, Value.int IntKind.i64 0] w fun t1 w1 =>
  callX Tryd.prog 74 [a0, a1] w1 fun t2 w2 =>
  neX EqK.num t2 (Value.int IntKind.i64 0) fun t3 =>
  brX t3
    (buildX [Value.int IntKind.i64 0, Value.int IntKind.i64 0, Value.int IntKind.i64 0] [] fun t4 =>
     storeNX 3 t1 t4 w2 fun w3 =>
     loadNX 3 t1 w3 fun t5 =>
     K (Value.tuple #[t5, t2]) w3)
  (nilX a0 fun t6 =>
  fieldAddrX 0 t6 fun t7 =>
  load1X t7 w2 fun t8 =>
  indexSX 3 t8 a1 fun t9 =>
  loadNX 3 t9 w2 fun t10 =>
  storeNX 3 t1 t10 w2 fun w4 =>
  loadNX 3 t1 w4 fun t11 =>
  K (Value.tuple #[t11, Value.int IntKind.i64 0]) w4)
theorem e18 (a0 a1 : Value) (w : World) (K : Cont) : fX Tryd.prog 18 an18 [a0, a1] w K = s18 a0 a1 w K := by kernel_rfl
theorem c18 (a0 a1 : Value) (w : World) (K : Cont) (h : s18 a0 a1 w K) : callX Tryd.prog 18 [a0, a1] w K := fX_call mixed (e18 a0 a1 w K) h

/-- (*berthing/fleet.Fleet).Tell -/
def an19 : Ann := (.n none .nil .o (.n none .nil .o (.n none .nil (.n none .nil (.n (some ([14, 15, 16, 17, 18, 19], [19])) .nil .o .o) .o) (.n none .nil (.n none (.one 0 (.one 1 (.one 2 (.one 4 (.one 5 (.one 6 (.one 7 (.one 9 (.one 12 (.one 13 (.one 14 (.one 16 (.one 3 (.one 8 (.one 10 (.one 11 (.one 15 (.eff (.alt 17 none (.one 18 (.eff (.alt 19 (some [18, 17, 0, 1, 2, 3, 4, 5, 6, 7, 8, 9, 10, 11, 12, 13, 14, 15, 16]) .nil .stop))) .stop))))))))))))))))))) .o .o) .o))))
def s19 (a0 a1 a2 : Value) (w : World) (K : Cont) : Prop :=
  callX Tryd.prog 74 [a0, a1] w fun t1 w1 =>
  neX EqK.num t1 (Value.int IntKind.i64 0) fun t2 =>
  brX t2
    (K t1 w1)
  (joinX (α := Value → World → Prop)
  (fun t3 w2 =>
   brX t3
     (K (Value.int IntKind.i64 2) w2)
   (∀ (w3 : World), (Drew w2 w3 →
   ∃ (S1 : World → Prop), (S1 w3 ∧
   nilX a0 fun t4 =>
   fieldAddrX 0 t4 fun t5 =>
   nilX a0 fun t6 =>
   fieldAddrX 0 t6 fun t7 =>
   nilX a0 fun t8 =>
   fieldAddrX 2 t8 fun t9 =>
   load1H S1 t5 fun t10 =>
   load1H S1 t7 fun t11 =>
   indexSX 3 t11 a1 fun t12 =>
   loadNH S1 3 t12 fun t13 =>
   loadNH S1 3 t9 fun t14 =>
   callX Tryd.prog 75 [t13, t14, a2] w3 fun t15 w4 =>
   (S1 w4 ∧
   indexSX 3 t10 a1 fun t16 =>
   storeNX 3 t16 t15 w4 fun w5 =>
   callX Tryd.prog 76 [a0] w5 fun t17 w6 =>
   K (Value.int IntKind.i64 0) w6)))))
  fun J2 =>
  ltX a2 (Value.int IntKind.i64 0) fun t18 =>
  brX t18
    (J2 (Value.bool true) w1)
  (gtX a2 (Value.int IntKind.i64 4) fun t19 =>
  J2 t19 w1))
theorem e19 (a0 a1 a2 : Value) (w : World) (K : Cont) : fX Tryd.prog 19 an19 [a0, a1, a2] w K = s19 a0 a1 a2 w K := by kernel_rfl
theorem c19 (a0 a1 a2 : Value) (w : World) (K : Cont) (h : s19 a0 a1 a2 w K) : callX Tryd.prog 19 [a0, a1, a2] w K := fX_call mixed (e19 a0 a1 a2 w K) h

/-- (*berthing/fleet.Fleet).Len -/
def an20 : Ann := .o
def s20 (a0 : Value) (w : World) (K : Cont) : Prop :=
  eqX EqK.ptr a0 (Value.pointer none) fun t1 =>
  brX t1
    (K (Value.int IntKind.i64 0) w)
  (nilX a0 fun t2 =>
  fieldAddrX 0 t2 fun t3 =>
  load1X t3 w fun t4 =>
  lenSX t4 fun t5 =>
  K t5 w)
theorem e20 (a0 : Value) (w : World) (K : Cont) : fX Tryd.prog 20 an20 [a0] w K = s20 a0 w K := by kernel_rfl
theorem c20 (a0 : Value) (w : World) (K : Cont) (h : s20 a0 w K) : callX Tryd.prog 20 [a0] w K := fX_call mixed (e20 a0 w K) h

/-- (*berthing/fleet.Fleet).Up -/
def an21 : Ann := .o
def s21 (a0 : Value) (w : World) (K : Cont) : Prop :=
  callX Tryd.prog 22 [a0, Value.int IntKind.i64 0] w fun t1 w1 =>
  K t1 w1
theorem e21 (a0 : Value) (w : World) (K : Cont) : fX Tryd.prog 21 an21 [a0] w K = s21 a0 w K := by kernel_rfl
theorem c21 (a0 : Value) (w : World) (K : Cont) (h : s21 a0 w K) : callX Tryd.prog 21 [a0] w K := fX_call mixed (e21 a0 w K) h

/-- (*berthing/fleet.Fleet).In -/
def an22 : Ann := (.n none .nil .o (.n none .nil .o (.n none .nil (.n none .nil .o (.n none .nil (.n none .nil .o .o) .o)) .o)))
def s22 (a0 a1 : Value) (w : World) (K : Cont) : Prop :=
  boxX 3 a1 w fun t1 w1 =>
  newX 27 [Value.int IntKind.u64 0] w1 fun t2 w2 =>
  callX Tryd.prog 77 [a0, Value.func (Fn.func 78) #[] #[t1]] w2 fun t3 w3 =>
  rangeV Tryd.prog t3 fun n1 J2 =>
  ∀ (n3 : Nat), ∀ (w4 : World), ∀ (o4 : Obj), ∀ (o5 : Obj), ∀ (o6 : Obj), (Entered w3 w4 n3 o4 →
  ((∀ (t4 : Value), ∀ (w5 : World), ∀ (K7 : Value → World → Prop), (AtX w5 n3 o4 →
  (((AtX w5 n3 o4 ∧
  ∀ (w6 : World), (Sto w5 w6 n3 o5 →
  load1X t2 w6 fun t5 =>
  callX Tryd.prog 79 [t5, t4] w6 fun t6 w7 =>
  store1X t2 t6 w7 fun w8 =>
  (AtX w8 n3 o5 ∧
  ∀ (w9 : World), (Sto w8 w9 n3 o4 →
  K7 (Value.bool true) w9))))) →
  yieldX Tryd.prog n3 [t4] w5 K7))) →
  callX Tryd.prog n1 (Value.func (Fn.yield n3) #[] #[] :: J2) w4 fun t7 w10 =>
  (AtX w10 n3 o4 ∧
  ∀ (w11 : World), (Sto w10 w11 n3 o6 →
  load1X t2 w11 fun t8 =>
  (AtX w11 (n3 - 1) (Obj.deferred (some [])) ∧
  ∀ (w12 : World), (Sto w11 w12 (n3 - 1) (Obj.deferred none) →
  K t8 w12))))))
theorem e22 (a0 a1 : Value) (w : World) (K : Cont) : fRX Tryd.prog 22 an22 [a0, a1] w K = s22 a0 a1 w K := by kernel_rfl
theorem c22 (a0 a1 : Value) (w : World) (K : Cont) (h : s22 a0 a1 w K) : callX Tryd.prog 22 [a0, a1] w K := fRX_call mixed (e22 a0 a1 w K) h

/-- (*berthing/fleet.Fleet).Spares -/
def an23 : Ann := .o
def s23 (a0 : Value) (w : World) (K : Cont) : Prop :=
  eqX EqK.ptr a0 (Value.pointer none) fun t1 =>
  brX t1
    (K (Value.int IntKind.u64 0) w)
  (nilX a0 fun t2 =>
  fieldAddrX 1 t2 fun t3 =>
  load1X t3 w fun t4 =>
  K t4 w)
theorem e23 (a0 : Value) (w : World) (K : Cont) : fX Tryd.prog 23 an23 [a0] w K = s23 a0 w K := by kernel_rfl
theorem c23 (a0 : Value) (w : World) (K : Cont) (h : s23 a0 w K) : callX Tryd.prog 23 [a0] w K := fX_call mixed (e23 a0 w K) h

/-- (*berthing/fleet.Fleet).Active -/
def an24 : Ann := .o
def s24 (a0 : Value) (w : World) (K : Cont) : Prop :=
  callX Tryd.prog 80 [a0] w fun t1 w1 =>
  callX Tryd.prog 23 [a0] w1 fun t2 w2 =>
  callX Tryd.prog 73 [t1, t2] w2 fun t3 w3 =>
  K t3 w3
theorem e24 (a0 : Value) (w : World) (K : Cont) : fX Tryd.prog 24 an24 [a0] w K = s24 a0 w K := by kernel_rfl
theorem c24 (a0 : Value) (w : World) (K : Cont) (h : s24 a0 w K) : callX Tryd.prog 24 [a0] w K := fX_call mixed (e24 a0 w K) h

/-- (*berthing/fleet.Fleet).Swaps -/
def an25 : Ann := .o
def s25 (a0 : Value) (w : World) (K : Cont) : Prop :=
  eqX EqK.ptr a0 (Value.pointer none) fun t1 =>
  brX t1
    (K (Value.int IntKind.i64 0) w)
  (nilX a0 fun t2 =>
  fieldAddrX 5 t2 fun t3 =>
  load1X t3 w fun t4 =>
  K t4 w)
theorem e25 (a0 : Value) (w : World) (K : Cont) : fX Tryd.prog 25 an25 [a0] w K = s25 a0 w K := by kernel_rfl
theorem c25 (a0 : Value) (w : World) (K : Cont) (h : s25 a0 w K) : callX Tryd.prog 25 [a0] w K := fX_call mixed (e25 a0 w K) h

/-- (*berthing/fleet.Fleet).Clone -/
def an26 : Ann := (.n none .nil .o (.n none .nil .o (.n none .nil .o (.n none .nil .o (.n none .nil (.n none (.one 0 (.one 2 (.one 3 (.one 4 (.one 1 (.one 5 (.eff (.alt 6 (some [1, 5, 0, 4, 3, 2]) .nil .stop)))))))) .o .o) .o)))))
def s26 (a0 : Value) (w : World) (K : Cont) : Prop :=
  callX Tryd.prog 81 [a0] w fun t1 w1 =>
  brX t1
    (K (Value.pointer none) w1)
  (nilX a0 fun t2 =>
  loadNX 6 t2 w1 fun t3 =>
  newX 31 [Value.slice none 0 0, Value.int IntKind.u64 0, Value.int IntKind.i64 0, Value.int IntKind.i64 0, Value.int IntKind.i64 0, Value.int IntKind.i64 0] w1 fun t4 w2 =>
  storeNX 6 t4 t3 w2 fun w3 =>
  nilX a0 fun t5 =>
  fieldAddrX 0 t5 fun t6 =>
  load1X t6 w3 fun t7 =>
  lenSX t7 fun t8 =>
  makeSX 33 24 [Value.int IntKind.i64 0, Value.int IntKind.i64 0, Value.int IntKind.i64 0] t8 t8 w3 fun t9 w4 =>
  fieldAddrX 0 t4 fun t10 =>
  store1X t10 t9 w4 fun w5 =>
  ∀ (w6 : World), (Drew w5 w6 →
  ∃ (S1 : World → Prop), (S1 w6 ∧
  fieldAddrX 0 t4 fun t11 =>
  nilX a0 fun t12 =>
  fieldAddrX 0 t12 fun t13 =>
  load1H S1 t11 fun t14 =>
  load1H S1 t13 fun t15 =>
  copyX 3 t14 t15 w6 fun t16 w7 =>
  K t4 w7)))
theorem e26 (a0 : Value) (w : World) (K : Cont) : fX Tryd.prog 26 an26 [a0] w K = s26 a0 w K := by kernel_rfl
theorem c26 (a0 : Value) (w : World) (K : Cont) (h : s26 a0 w K) : callX Tryd.prog 26 [a0] w K := fX_call mixed (e26 a0 w K) h

/-- (*berthing/fleet.Fleet).Put -/
def an27 : Ann := (.n none .nil .o (.n none .nil .o (.n none .nil .o (.n none .nil (.n none .nil (.n none (.one 0 (.one 1 (.one 2 (.one 5 (.one 6 (.one 7 (.one 8 (.one 10 (.one 11 (.one 12 (.one 13 (.one 15 (.one 16 (.one 17 (.one 18 (.one 20 (.one 21 (.one 22 (.one 25 (.one 26 (.one 27 (.one 30 (.one 3 (.one 4 (.one 9 (.one 14 (.one 19 (.one 23 (.one 24 (.one 28 (.one 29 .nil))))))))))))))))))))))))))))))) .o .o) (.n none .nil (.n (some ([3, 5, 40, 41, 42, 43, 44, 45, 46], [3, 40])) .nil .o .o) .o)) (.n none .nil (.n none .nil .o (.n none .nil (.n (some ([3, 7, 52, 53, 54, 55, 56, 57, 58, 59, 60, 61, 62, 63, 64, 65, 66], [3, 52])) .nil (.n none .nil .o (.n none .nil .o (.n none .nil (.n none .nil (.n none .nil .o (.n none (.one 0 (.one 1 (.one 4 (.one 7 (.one 2 (.one 5 (.one 8 (.eff (.alt 3 none (.eff (.alt 6 none (.eff (.alt 9 (some [6, 8, 3, 5, 7, 0, 2, 4, 1]) (.one 10 .nil) .stop)) .stop)) .stop))))))))) .o .o)) .o) .o))) .o) .o)) .o)))))
def s27 (a0 : Value) (w : World) (K : Cont) : Prop :=
  callX Tryd.prog 81 [a0] w fun t1 w1 =>
  brX t1
    (K (Value.slice none 0 0) w1)
  (∀ (w2 : World), (Drew w1 w2 →
  ∃ (S1 : World → Prop), (S1 w2 ∧
  nilX a0 fun t2 =>
  fieldAddrX 0 t2 fun t3 =>
  nilX a0 fun t4 =>
  fieldAddrX 2 t4 fun t5 =>
  fieldAddrX 0 t5 fun t6 =>
  nilX a0 fun t7 =>
  fieldAddrX 2 t7 fun t8 =>
  fieldAddrX 1 t8 fun t9 =>
  nilX a0 fun t10 =>
  fieldAddrX 2 t10 fun t11 =>
  fieldAddrX 2 t11 fun t12 =>
  nilX a0 fun t13 =>
  fieldAddrX 1 t13 fun t14 =>
  nilX a0 fun t15 =>
  fieldAddrX 5 t15 fun t16 =>
  load1H S1 t3 fun t17 =>
  lenSX t17 fun t18 =>
  load1H S1 t6 fun t19 =>
  load1H S1 t9 fun t20 =>
  load1H S1 t12 fun t21 =>
  load1H S1 t14 fun t22 =>
  convIX IntKind.i64 t22 fun t23 =>
  load1H S1 t16 fun t24 =>
  buildX [Value.int IntKind.i64 0, Value.int IntKind.i64 0, Value.int IntKind.i64 0, Value.int IntKind.i64 0, Value.int IntKind.i64 0, Value.int IntKind.i64 0] [(0, 1, t18), (1, 1, t19), (2, 1, t20), (3, 1, t21), (4, 1, t23), (5, 1, t24)] fun t25 =>
  ∃ (I2 : Value → Value → World → Prop), ∃ (m3 : Value → Value → World → Nat), (I2 (Value.slice none 0 0) (Value.int IntKind.i64 0) w2 ∧
  ∀ (t26 : Value), ∀ (t27 : Value), ∀ (w3 : World), (I2 t26 t27 w3 →
  ltX t27 (Value.int IntKind.i64 6) fun t28 =>
  brX t28
    (indexVX 6 t25 t27 fun t29 =>
     callX Tryd.prog 82 [t26, t29] w3 fun t30 w4 =>
     addX t27 (Value.int IntKind.i64 1) fun t31 =>
     (I2 t30 t31 w4 ∧
     lessN (m3 t30 t31 w4) (m3 t26 t27 w3)))
  (nilX a0 fun t32 =>
  fieldAddrX 0 t32 fun t33 =>
  load1X t33 w3 fun t34 =>
  lenSX t34 fun t35 =>
  ∃ (I4 : Value → Value → World → Prop), ∃ (m5 : Value → Value → World → Nat), (I4 t26 (Value.int IntKind.i64 0) w3 ∧
  ∀ (t36 : Value), ∀ (t37 : Value), ∀ (w5 : World), (I4 t36 t37 w5 →
  ltX t37 t35 fun t38 =>
  brX t38
    (indexSX 3 t34 t37 fun t39 =>
     loadNX 3 t39 w5 fun t40 =>
     newX 33 [Value.int IntKind.i64 0, Value.int IntKind.i64 0, Value.int IntKind.i64 0] w5 fun t41 w6 =>
     storeNX 3 t41 t40 w6 fun w7 =>
     ∀ (w8 : World), (Drew w7 w8 →
     ∃ (S6 : World → Prop), (S6 w8 ∧
     fieldAddrX 0 t41 fun t42 =>
     fieldAddrX 1 t41 fun t43 =>
     fieldAddrX 2 t41 fun t44 =>
     load1H S6 t42 fun t45 =>
     load1H S6 t43 fun t46 =>
     load1H S6 t44 fun t47 =>
     callX Tryd.prog 82 [t36, t45] w8 fun t48 w9 =>
     (S6 w9 ∧
     callX Tryd.prog 82 [t48, t46] w9 fun t49 w10 =>
     (S6 w10 ∧
     callX Tryd.prog 82 [t49, t47] w10 fun t50 w11 =>
     addX t37 (Value.int IntKind.i64 1) fun t51 =>
     (I4 t50 t51 w11 ∧
     lessN (m5 t50 t51 w11) (m5 t36 t37 w5)))))))
  (K t36 w5)))))))))
theorem e27 (a0 : Value) (w : World) (K : Cont) : fX Tryd.prog 27 an27 [a0] w K = s27 a0 w K := by kernel_rfl
theorem c27 (a0 : Value) (w : World) (K : Cont) (h : s27 a0 w K) : callX Tryd.prog 27 [a0] w K := fX_call mixed (e27 a0 w K) h

/-- (*berthing/fleet.Fleet).Rules -/
def an28 : Ann := .o
def s28 (a0 : Value) (w : World) (K : Cont) : Prop :=
  newX 29 [Value.int IntKind.i64 0, Value.int IntKind.i64 0, Value.int IntKind.i64 0] w fun t1 w1 =>
  eqX EqK.ptr a0 (Value.pointer none) fun t2 =>
  brX t2
    (buildX [Value.int IntKind.i64 0, Value.int IntKind.i64 0, Value.int IntKind.i64 0] [] fun t3 =>
     storeNX 3 t1 t3 w1 fun w2 =>
     loadNX 3 t1 w2 fun t4 =>
     K t4 w2)
  (nilX a0 fun t5 =>
  fieldAddrX 2 t5 fun t6 =>
  loadNX 3 t6 w1 fun t7 =>
  storeNX 3 t1 t7 w1 fun w3 =>
  loadNX 3 t1 w3 fun t8 =>
  K t8 w3)
theorem e28 (a0 : Value) (w : World) (K : Cont) : fX Tryd.prog 28 an28 [a0] w K = s28 a0 w K := by kernel_rfl
theorem c28 (a0 : Value) (w : World) (K : Cont) (h : s28 a0 w K) : callX Tryd.prog 28 [a0] w K := fX_call mixed (e28 a0 w K) h

/-- berthing/fleet.Same -/
def an29 : Ann := .o
def s29 (a0 a1 : Value) (w : World) (K : Cont) : Prop :=
  callX Tryd.prog 27 [a0] w fun t1 w1 =>
  callX Tryd.prog 27 [a1] w1 fun t2 w2 =>
  callX Tryd.prog 83 [t1, t2] w2 fun t3 w3 =>
  K t3 w3
theorem e29 (a0 a1 : Value) (w : World) (K : Cont) : fX Tryd.prog 29 an29 [a0, a1] w K = s29 a0 a1 w K := by kernel_rfl
theorem c29 (a0 a1 : Value) (w : World) (K : Cont) (h : s29 a0 a1 w K) : callX Tryd.prog 29 [a0, a1] w K := fX_call mixed (e29 a0 a1 w K) h

/-- berthing/fleet.New -/
def an72 : Ann := (.n none .nil .o (.n none .nil (.n none .nil (.n (some ([9, 10, 11, 12, 13, 14, 15, 16, 17, 18, 19, 20, 21, 22, 23, 24, 25, 26, 27, 28], [28])) .nil .o .o) .o) (.n none .nil (.n none (.one 0 (.one 2 (.eff (.alt 1 none (.one 3 (.eff (.alt 4 (some [3, 1, 2, 0]) (.one 5 .nil) .stop))) .stop)))) .o .o) .o)))
def s72 (a0 a1 a2 : Value) (w : World) (K : Cont) : Prop :=
  boxX 29 a2 w fun t1 w1 =>
  joinX (α := Value → World → Prop)
  (fun t2 w2 =>
   brX t2
     (K (Value.tuple #[Value.pointer none, Value.int IntKind.i64 2]) w2)
   (∀ (w3 : World), (Drew w2 w3 →
   ∃ (S1 : World → Prop), (S1 w3 ∧
   loadNH S1 3 t1 fun t3 =>
   makeSX 33 24 [Value.int IntKind.i64 0, Value.int IntKind.i64 0, Value.int IntKind.i64 0] a0 a0 w3 fun t4 w4 =>
   (S1 w4 ∧
   buildX [Value.slice none 0 0, Value.int IntKind.u64 0, Value.int IntKind.i64 0, Value.int IntKind.i64 0, Value.int IntKind.i64 0, Value.int IntKind.i64 0] [(0, 1, t4), (2, 3, t3)] fun t5 =>
   boxX 31 t5 w4 fun t6 w5 =>
   callX Tryd.prog 80 [t6] w5 fun t7 w6 =>
   subX a0 a1 fun t8 =>
   callX Tryd.prog 137 [t8] w6 fun t9 w7 =>
   callX Tryd.prog 73 [t7, t9] w7 fun t10 w8 =>
   nilX t6 fun t11 =>
   fieldAddrX 1 t11 fun t12 =>
   store1X t12 t10 w8 fun w9 =>
   K (Value.tuple #[t6, Value.int IntKind.i64 0]) w9)))))
  fun J2 =>
  ltX a0 (Value.int IntKind.i64 1) fun t13 =>
  brX t13
    (J2 (Value.bool true) w1)
  (gtX a0 (Value.int IntKind.i64 64) fun t14 =>
  brX t14
    (J2 (Value.bool true) w1)
  (ltX a1 (Value.int IntKind.i64 0) fun t15 =>
  brX t15
    (J2 (Value.bool true) w1)
  (geX a1 a0 fun t16 =>
  brX t16
    (J2 (Value.bool true) w1)
  (loadNX 3 t1 w1 fun t17 =>
  callX Tryd.prog 136 [t17] w1 fun t18 w10 =>
  notX t18 fun t19 =>
  J2 t19 w10))))
theorem e72 (a0 a1 a2 : Value) (w : World) (K : Cont) : fX Tryd.prog 72 an72 [a0, a1, a2] w K = s72 a0 a1 a2 w K := by kernel_rfl
theorem c72 (a0 a1 a2 : Value) (w : World) (K : Cont) (h : s72 a0 a1 a2 w K) : callX Tryd.prog 72 [a0, a1, a2] w K := fX_call mixed (e72 a0 a1 a2 w K) h

/-- (*berthing/fleet.Fleet).may -/
def an74 : Ann := (.n none .nil .o (.n none .nil (.n none .nil (.n none .nil .o (.n none .nil .o (.n none .nil (.n (some ([8, 9, 10, 11, 12, 13, 14, 15, 16, 17, 18, 19], [8])) .nil .o .o) .o))) .o) .o))
def s74 (a0 a1 : Value) (w : World) (K : Cont) : Prop :=
  callX Tryd.prog 81 [a0] w fun t1 w1 =>
  brX t1
    (K (Value.int IntKind.i64 1) w1)
  (joinX (α := Value → World → Prop)
  (fun t2 w2 =>
   brX t2
     (K (Value.int IntKind.i64 13) w2)
   (K (Value.int IntKind.i64 0) w2))
  fun J1 =>
  ltX a1 (Value.int IntKind.i64 0) fun t3 =>
  brX t3
    (J1 (Value.bool true) w1)
  (nilX a0 fun t4 =>
  fieldAddrX 0 t4 fun t5 =>
  load1X t5 w1 fun t6 =>
  lenSX t6 fun t7 =>
  geX a1 t7 fun t8 =>
  J1 t8 w1))
theorem e74 (a0 a1 : Value) (w : World) (K : Cont) : fX Tryd.prog 74 an74 [a0, a1] w K = s74 a0 a1 w K := by kernel_rfl
theorem c74 (a0 a1 : Value) (w : World) (K : Cont) (h : s74 a0 a1 w K) : callX Tryd.prog 74 [a0, a1] w K := fX_call mixed (e74 a0 a1 w K) h

/-- (*berthing/fleet.Fleet).swap -/
def an76 : Ann := (.n none .nil (.n (some ([2, 3, 4, 5, 6, 7, 8, 9, 10, 11, 12, 13, 14, 15, 16, 17, 18, 19, 20, 21, 22, 23, 24, 25, 26, 27, 28, 29, 30], [])) .nil .o .o) .o)
def s76 (a0 : Value) (w : World) (K : Cont) : Prop :=
  ∃ (S1 : World → Prop), ∃ (m2 : World → Nat), (S1 w ∧
  ∀ (w1 : World), (S1 w1 →
  callX Tryd.prog 142 [a0] w1 fun t1 w2 =>
  extractX t1 0 fun t2 =>
  extractX t1 1 fun t3 =>
  extractX t1 2 fun t4 =>
  notX t4 fun t5 =>
  brX t5
    (K (Value.tuple #[]) w2)
  (nilX a0 fun t6 =>
  fieldAddrX 1 t6 fun t7 =>
  load1X t7 w2 fun t8 =>
  callX Tryd.prog 143 [t8, t3] w2 fun t9 w3 =>
  callX Tryd.prog 79 [t9, t2] w3 fun t10 w4 =>
  nilX a0 fun t11 =>
  fieldAddrX 1 t11 fun t12 =>
  store1X t12 t10 w4 fun w5 =>
  nilX a0 fun t13 =>
  fieldAddrX 5 t13 fun t14 =>
  load1X t14 w5 fun t15 =>
  addX t15 (Value.int IntKind.i64 1) fun t16 =>
  nilX a0 fun t17 =>
  fieldAddrX 5 t17 fun t18 =>
  store1X t18 t16 w5 fun w6 =>
  (S1 w6 ∧
  lessN (m2 w6) (m2 w1)))))
theorem e76 (a0 : Value) (w : World) (K : Cont) : fX Tryd.prog 76 an76 [a0] w K = s76 a0 w K := by kernel_rfl
theorem c76 (a0 : Value) (w : World) (K : Cont) (h : s76 a0 w K) : callX Tryd.prog 76 [a0] w K := fX_call mixed (e76 a0 w K) h

/-- (*berthing/fleet.Fleet).that -/
def an77 : Ann := .o
def s77 (a0 a1 : Value) (w : World) (K : Cont) : Prop :=
  boxX 24 a0 w fun t1 w1 =>
  boxX 151 a1 w1 fun t2 w2 =>
  K (Value.func (Fn.func 144) #[] #[t1, t2]) w2
theorem e77 (a0 a1 : Value) (w : World) (K : Cont) : fX Tryd.prog 77 an77 [a0, a1] w K = s77 a0 a1 w K := by kernel_rfl
theorem c77 (a0 a1 : Value) (w : World) (K : Cont) (h : s77 a0 a1 w K) : callX Tryd.prog 77 [a0, a1] w K := fX_call mixed (e77 a0 a1 w K) h

/-- (*berthing/fleet.Fleet).In$1 -/
def an78 : Ann := .o
def s78 (a0 a1 : Value) (w : World) (K : Cont) : Prop :=
  boxX 33 a0 w fun t1 w1 =>
  fieldAddrX 0 t1 fun t2 =>
  load1X t2 w1 fun t3 =>
  load1X a1 w1 fun t4 =>
  eqX EqK.num t3 t4 fun t5 =>
  K t5 w1
theorem e78 (a0 a1 : Value) (w : World) (K : Cont) : fX Tryd.prog 78 an78 [a0, a1] w K = s78 a0 a1 w K := by kernel_rfl
theorem c78 (a0 a1 : Value) (w : World) (K : Cont) (h : s78 a0 a1 w K) : callX Tryd.prog 78 [a0, a1] w K := fX_call mixed (e78 a0 a1 w K) h

/-- (*berthing/fleet.Fleet).all -/
def an80 : Ann := .o
def s80 (a0 : Value) (w : World) (K : Cont) : Prop :=
  callX Tryd.prog 20 [a0] w fun t1 w1 =>
  callX Tryd.prog 137 [t1] w1 fun t2 w2 =>
  K t2 w2
theorem e80 (a0 : Value) (w : World) (K : Cont) : fX Tryd.prog 80 an80 [a0] w K = s80 a0 w K := by kernel_rfl
theorem c80 (a0 : Value) (w : World) (K : Cont) (h : s80 a0 w K) : callX Tryd.prog 80 [a0] w K := fX_call mixed (e80 a0 w K) h

/-- (*berthing/fleet.Fleet).none -/
def an81 : Ann := .o
def s81 (a0 : Value) (w : World) (K : Cont) : Prop :=
  eqX EqK.ptr a0 (Value.pointer none) fun t1 =>
  brX t1
    (K (Value.bool true) w)
  (nilX a0 fun t2 =>
  fieldAddrX 0 t2 fun t3 =>
  load1X t3 w fun t4 =>
  lenSX t4 fun t5 =>
  eqX EqK.num t5 (Value.int IntKind.i64 0) fun t6 =>
  K t6 w)
theorem e81 (a0 : Value) (w : World) (K : Cont) : fX Tryd.prog 81 an81 [a0] w K = s81 a0 w K := by kernel_rfl
theorem c81 (a0 : Value) (w : World) (K : Cont) (h : s81 a0 w K) : callX Tryd.prog 81 [a0] w K := fX_call mixed (e81 a0 w K) h

/-- bytes.Equal -/
def an83 : Ann := .o
def s83 (a0 a1 : Value) (w : World) (K : Cont) : Prop :=
  strX a0 w fun t1 =>
  strX a1 w fun t2 =>
  eqX EqK.str t1 t2 fun t3 =>
  K t3 w
theorem e83 (a0 a1 : Value) (w : World) (K : Cont) : fX Tryd.prog 83 an83 [a0, a1] w K = s83 a0 a1 w K := by kernel_rfl
theorem c83 (a0 a1 : Value) (w : World) (K : Cont) (h : s83 a0 a1 w K) : callX Tryd.prog 83 [a0, a1] w K := fX_call mixed (e83 a0 a1 w K) h

/-- (*berthing/fleet.Fleet).lame -/
def an142 : Ann := (.n none .nil .o (.n none .nil .o (.n none .nil (.n none (.one 0 (.one 2 (.one 5 (.one 6 (.one 7 (.one 9 (.one 8 (.eff (.alt 1 none (.eff (.alt 3 none (.eff (.alt 4 none (.eff (.alt 10 (some [8, 9, 4, 7, 3, 6, 1, 2, 5, 0]) (.eff (.alt 11 (some [10, 8, 9, 4, 7, 3, 6, 1, 2, 5, 0]) (.one 12 (.one 13 .nil)) .stop)) .stop)) .stop)) .stop)) .stop))))))))) .o .o) .o)))
def s142 (a0 : Value) (w : World) (K : Cont) : Prop :=
  callX Tryd.prog 21 [a0] w fun t1 w1 =>
  ∀ (w2 : World), (Drew w1 w2 →
  ∃ (S1 : World → Prop), (S1 w2 ∧
  nilX a0 fun t2 =>
  fieldAddrX 1 t2 fun t3 =>
  load1H S1 t3 fun t4 =>
  callX Tryd.prog 24 [a0] w2 fun t5 w3 =>
  (S1 w3 ∧
  callX Tryd.prog 73 [t5, t1] w3 fun t6 w4 =>
  (S1 w4 ∧
  callX Tryd.prog 172 [t6] w4 fun t7 w5 =>
  (S1 w5 ∧
  callX Tryd.prog 48 [t4, t1] w5 fun t8 w6 =>
  callX Tryd.prog 172 [t8] w6 fun t9 w7 =>
  geX t7 (Value.int IntKind.i64 0) fun t10 =>
  brX t10
    (geX t9 (Value.int IntKind.i64 0) fun t11 =>
     K (Value.tuple #[t7, t9, t11]) w7)
  (K (Value.tuple #[t7, t9, Value.bool false]) w7))))))
theorem e142 (a0 : Value) (w : World) (K : Cont) : fX Tryd.prog 142 an142 [a0] w K = s142 a0 w K := by kernel_rfl
theorem c142 (a0 : Value) (w : World) (K : Cont) (h : s142 a0 w K) : callX Tryd.prog 142 [a0] w K := fX_call mixed (e142 a0 w K) h

/-- (*berthing/fleet.Fleet).that$1 -/
def an144 : Ann := (.n none .nil .o (.n none .nil .o (.n none .nil (.n (some ([4, 5, 13, 14, 15, 16, 17, 18, 19, 20, 21, 22, 23, 24, 25, 26, 27], [13])) .nil (.n none .nil .o (.n none .nil .o (.n none .nil (.n none .nil (.n none .nil .o (.n none .nil (.n (some ([18, 19, 20, 21, 22, 23, 24, 25, 26], [26])) .nil .o .o) .o)) .o) .o))) .o) .o)))
def s144 (a0 a1 a2 : Value) (w : World) (K : Cont) : Prop :=
  load1X a1 w fun t1 =>
  eqX EqK.ptr t1 (Value.pointer none) fun t2 =>
  brX t2
    (K (Value.tuple #[]) w)
  (load1X a1 w fun t3 =>
  nilX t3 fun t4 =>
  fieldAddrX 0 t4 fun t5 =>
  load1X t5 w fun t6 =>
  lenSX t6 fun t7 =>
  ∃ (I1 : Value → World → Prop), ∃ (m2 : Value → World → Nat), (I1 (Value.int IntKind.i64 0) w ∧
  ∀ (t8 : Value), ∀ (w1 : World), (I1 t8 w1 →
  ltX t8 t7 fun t9 =>
  brX t9
    (indexSX 3 t6 t8 fun t10 =>
     loadNX 3 t10 w1 fun t11 =>
     newX 33 [Value.int IntKind.i64 0, Value.int IntKind.i64 0, Value.int IntKind.i64 0] w1 fun t12 w2 =>
     storeNX 3 t12 t11 w2 fun w3 =>
     joinX (α := Value → World → Prop)
     (fun t13 w4 =>
      brX t13
        (K (Value.tuple #[]) w4)
      (addX t8 (Value.int IntKind.i64 1) fun t14 =>
      (I1 t14 w4 ∧
      lessN (m2 t14 w4) (m2 t8 w1))))
     fun J3 =>
     load1X a2 w3 fun t15 =>
     loadNX 3 t12 w3 fun t16 =>
     fvX Tryd.prog t15 [t16] w3 fun t17 w5 =>
     brX t17
       (fvX Tryd.prog a0 [t8] w5 fun t18 w6 =>
        notX t18 fun t19 =>
        J3 t19 w6)
     (J3 (Value.bool false) w5))
  (K (Value.tuple #[]) w1))))
theorem e144 (a0 a1 a2 : Value) (w : World) (K : Cont) : fX Tryd.prog 144 an144 [a0, a1, a2] w K = s144 a0 a1 a2 w K := by kernel_rfl
theorem c144 (a0 a1 a2 : Value) (w : World) (K : Cont) (h : s144 a0 a1 a2 w K) : callX Tryd.prog 144 [a0, a1, a2] w K := fX_call mixed (e144 a0 a1 a2 w K) h

/-- berthing/berthinglaw09.one -/
def an30 : Ann := (.n none .nil .o (.n none .nil .o (.n none .nil (.n none .nil (.n (some ([9, 10, 11, 12, 13, 14], [14])) .nil .o .o) .o) .o)))
def s30 (w : World) (K : Cont) : Prop :=
  buildX [Value.int IntKind.i64 0, Value.int IntKind.i64 0, Value.int IntKind.i64 0] [(0, 1, Value.int IntKind.i64 1), (1, 1, Value.int IntKind.i64 2), (2, 1, Value.int IntKind.i64 1)] fun t1 =>
  callX Tryd.prog 72 [Value.int IntKind.i64 4, Value.int IntKind.i64 1, t1] w fun t2 w1 =>
  extractX t2 0 fun t3 =>
  extractX t2 1 fun t4 =>
  joinX (α := Value → World → Prop)
  (fun t5 w2 =>
   brX t5
     (K (Value.bool false) w2)
   (callX Tryd.prog 19 [t3, Value.int IntKind.i64 0, Value.int IntKind.i64 1] w2 fun t6 w3 =>
   eqX EqK.num t6 (Value.int IntKind.i64 0) fun t7 =>
   brX t7
     (callX Tryd.prog 23 [t3] w3 fun t8 w4 =>
      eqX EqK.num t8 (Value.int IntKind.u64 1) fun t9 =>
      brX t9
        (callX Tryd.prog 24 [t3] w4 fun t10 w5 =>
         eqX EqK.num t10 (Value.int IntKind.u64 14) fun t11 =>
         brX t11
           (callX Tryd.prog 25 [t3] w5 fun t12 w6 =>
            eqX EqK.num t12 (Value.int IntKind.i64 1) fun t13 =>
            brX t13
              (callX Tryd.prog 21 [t3] w6 fun t14 w7 =>
               eqX EqK.num t14 (Value.int IntKind.u64 14) fun t15 =>
               K t15 w7)
            (K (Value.bool false) w6))
         (K (Value.bool false) w5))
      (K (Value.bool false) w4))
   (K (Value.bool false) w3)))
  fun J1 =>
  neX EqK.num t4 (Value.int IntKind.i64 0) fun t16 =>
  brX t16
    (J1 (Value.bool true) w1)
  (eqX EqK.ptr t3 (Value.pointer none) fun t17 =>
  J1 t17 w1)
theorem e30 (w : World) (K : Cont) : fX Tryd.prog 30 an30 [] w K = s30 w K := by kernel_rfl
theorem c30 (w : World) (K : Cont) (h : s30 w K) : callX Tryd.prog 30 [] w K := fX_call mixed (e30 w K) h

/-- berthing/berthinglaw09.FleetNobody -/
def an3 : Ann := (.n none .nil .o (.n none .nil (.n none .nil .o (.n none .nil (.n (some ([2, 3, 4, 5, 6, 7, 8, 9, 10, 11, 12, 13, 14, 15, 16, 17, 18, 19, 20, 21, 22, 23, 24, 25, 26, 27, 28, 29, 30, 31, 32, 33, 34, 35, 36, 37, 38, 39, 40, 41, 42, 43, 44, 45, 46, 47, 48, 49, 50, 51, 52, 53, 54, 55, 56, 57, 58, 59, 60, 61, 62, 63, 64, 65, 66, 67, 68, 69, 70, 71, 72, 73, 74, 75, 76, 77, 78, 79, 80], [3])) .nil (.n none .nil .o (.n none .nil (.n none .nil (.n none .nil .o (.n none .nil (.n none .nil .o (.n (some ([4], [4])) .nil .o .o)) (.n none .nil .o (.n none .nil (.n (some ([22, 23, 24, 25, 26, 27, 28, 29, 30, 31, 32, 33, 34, 35, 36, 37, 38, 39, 40, 41, 42, 43, 44, 45, 46, 47, 48, 49, 50, 51, 52, 53, 54, 55, 56, 57, 58, 59, 60, 61, 62, 63, 64, 65, 66, 67, 68, 69, 70, 71, 72, 73, 74, 75, 76, 77, 78, 79, 80], [80])) (.one 0 (.one 1 (.one 2 (.one 3 (.one 4 (.one 6 (.one 5 (.one 7 (.eff (.alt 8 none (.one 9 (.one 10 (.one 11 (.one 12 (.eff (.alt 13 none (.one 14 (.one 15 (.one 16 (.one 17 (.one 19 (.one 20 (.one 24 (.one 27 (.one 21 (.eff (.alt 18 none (.eff (.alt 22 (some [19, 21, 18, 16, 20, 17, 15, 13, 11, 14, 12, 10, 8, 2, 9, 3, 5, 7, 1, 4, 6, 0]) (.one 23 (.eff (.alt 25 (some [24, 22, 16, 19, 21, 18, 15, 13, 20, 17, 11, 14, 12, 10, 8, 2, 9, 3, 5, 7, 1, 4, 6, 0]) (.one 26 (.eff (.alt 28 (some [27, 25, 16, 24, 22, 15, 13, 19, 21, 18, 11, 14, 12, 20, 17, 10, 8, 2, 9, 3, 5, 7, 1, 4, 6, 0]) (.one 29 (.one 30 (.one 31 (.one 32 (.one 33 (.eff (.alt 34 (some [33, 32, 31, 28, 16, 30, 27, 25, 15, 13, 29, 24, 22, 11, 14, 12, 26, 19, 21, 18, 10, 8, 23, 20, 17, 2, 9, 3, 5, 7, 1, 4, 6, 0]) (.one 35 (.one 36 (.one 37 (.one 38 (.eff (.alt 39 (some [38, 37, 36, 34, 32, 35, 33, 31, 28, 16, 30, 27, 25, 15, 13, 29, 24, 22, 11, 14, 12, 26, 19, 21, 18, 10, 8, 23, 20, 17, 2, 9, 3, 5, 7, 1, 4, 6, 0]) (.one 40 (.one 41 (.one 42 (.one 43 (.eff (.alt 44 (some [43, 42, 41, 39, 37, 40, 38, 36, 34, 32, 35, 33, 31, 28, 16, 30, 27, 25, 15, 13, 29, 24, 22, 11, 14, 12, 26, 19, 21, 18, 10, 8, 23, 20, 17, 2, 9, 3, 5, 7, 1, 4, 6, 0]) (.one 45 (.one 46 (.one 47 (.one 48 (.one 49 (.one 51 (.eff (.alt 50 (some [49, 48, 47, 44, 42, 46, 43, 41, 39, 45, 37, 40, 38, 36, 34, 32, 35, 33, 31, 28, 16, 30, 27, 25, 15, 13, 29, 24, 22, 11, 14, 12, 26, 19, 21, 18, 10, 8, 23, 20, 17, 2, 9, 3, 5, 7, 1, 4, 6, 0]) (.one 52 (.one 53 (.one 54 (.one 55 (.eff (.alt 56 (some [55, 54, 53, 50, 48, 52, 49, 47, 44, 51, 42, 46, 43, 41, 39, 45, 37, 40, 38, 36, 34, 32, 35, 33, 31, 28, 16, 30, 27, 25, 15, 13, 29, 24, 22, 11, 14, 12, 26, 19, 21, 18, 10, 8, 23, 20, 17, 2, 9, 3, 5, 7, 1, 4, 6, 0]) (.one 57 (.one 58 .nil)) .stop)))))) .stop)))))))) .stop)))))) .stop)))))) .stop))))))) .stop))) .stop))) .stop)) .stop))))))))))) .stop)))))) .stop)))))))))) .o .o) .o)))) .o) .o)) .o) .o)) .o))
def s3 (a0 : Value) (w : World) (K : Cont) : Prop :=
  boxX 23 a0 w fun t1 w1 =>
  ∃ (I1 : Value → World → Prop), ∃ (m2 : Value → World → Nat), (I1 (Value.int IntKind.i64 0) w1 ∧
  ∀ (t2 : Value), ∀ (w2 : World), (I1 t2 w2 →
  ltX t2 (Value.int IntKind.i64 2) fun t3 =>
  brX t3
    (buildX [Value.slice none 0 0, Value.int IntKind.u64 0, Value.int IntKind.i64 0, Value.int IntKind.i64 0, Value.int IntKind.i64 0, Value.int IntKind.i64 0] [] fun t4 =>
     boxX 31 t4 w2 fun t5 w3 =>
     eqX EqK.num t2 (Value.int IntKind.i64 1) fun t6 =>
     joinX (α := Value → World → Prop)
     (fun t7 w4 =>
      fieldAddrX 0 t1 fun t8 =>
      load1X t8 w4 fun t9 =>
      callX Tryd.prog 18 [t7, t9] w4 fun t10 w5 =>
      extractX t10 0 fun t11 =>
      extractX t10 1 fun t12 =>
      newX 33 [Value.int IntKind.i64 0, Value.int IntKind.i64 0, Value.int IntKind.i64 0] w5 fun t13 w6 =>
      storeNX 3 t13 t11 w6 fun w7 =>
      joinX (α := Value → World → Prop)
      (fun t14 w8 =>
       brX t14
         (K (Value.bool false) w8)
       (addX t2 (Value.int IntKind.i64 1) fun t15 =>
       (I1 t15 w8 ∧
       lessN (m2 t15 w8) (m2 t2 w2))))
      fun J3 =>
      ∀ (w9 : World), (Drew w7 w9 →
      ∃ (S4 : World → Prop), (S4 w9 ∧
      neX EqK.num t12 (Value.int IntKind.i64 1) fun t16 =>
      brX t16
        (J3 (Value.bool true) w9)
      (fieldAddrX 0 t1 fun t17 =>
      fieldAddrX 1 t1 fun t18 =>
      load1H S4 t17 fun t19 =>
      load1H S4 t18 fun t20 =>
      callX Tryd.prog 19 [t7, t19, t20] w9 fun t21 w10 =>
      (S4 w10 ∧
      neX EqK.num t21 (Value.int IntKind.i64 1) fun t22 =>
      brX t22
        (J3 (Value.bool true) w10)
      (callX Tryd.prog 20 [t7] w10 fun t23 w11 =>
      (S4 w11 ∧
      neX EqK.num t23 (Value.int IntKind.i64 0) fun t24 =>
      brX t24
        (J3 (Value.bool true) w11)
      (fieldAddrX 1 t1 fun t25 =>
      load1H S4 t25 fun t26 =>
      callX Tryd.prog 21 [t7] w11 fun t27 w12 =>
      (S4 w12 ∧
      callX Tryd.prog 22 [t7, t26] w12 fun t28 w13 =>
      orX t27 t28 fun t29 =>
      callX Tryd.prog 23 [t7] w13 fun t30 w14 =>
      orX t29 t30 fun t31 =>
      callX Tryd.prog 24 [t7] w14 fun t32 w15 =>
      orX t31 t32 fun t33 =>
      neX EqK.num t33 (Value.int IntKind.u64 0) fun t34 =>
      brX t34
        (J3 (Value.bool true) w15)
      (callX Tryd.prog 25 [t7] w15 fun t35 w16 =>
      neX EqK.num t35 (Value.int IntKind.i64 0) fun t36 =>
      brX t36
        (J3 (Value.bool true) w16)
      (callX Tryd.prog 26 [t7] w16 fun t37 w17 =>
      neX EqK.ptr t37 (Value.pointer none) fun t38 =>
      brX t38
        (J3 (Value.bool true) w17)
      (callX Tryd.prog 27 [t7] w17 fun t39 w18 =>
      lenSX t39 fun t40 =>
      neX EqK.num t40 (Value.int IntKind.i64 0) fun t41 =>
      brX t41
        (J3 (Value.bool true) w18)
      (buildX [Value.int IntKind.i64 0, Value.int IntKind.i64 0, Value.int IntKind.i64 0] [] fun t42 =>
      callX Tryd.prog 28 [t7] w18 fun t43 w19 =>
      neNX 3 [(0, EqK.num), (1, EqK.num), (2, EqK.num)] t43 t42 fun t44 =>
      brX t44
        (J3 (Value.bool true) w19)
      (callX Tryd.prog 29 [t7, Value.pointer none] w19 fun t45 w20 =>
      notX t45 fun t46 =>
      J3 t46 w20))))))))))))))
     fun J5 =>
     brX t6
       (J5 (Value.pointer none) w3)
     (J5 t5 w3))
  (callX Tryd.prog 30 [] w2 fun t47 w21 =>
  K t47 w21)))
theorem e3 (a0 : Value) (w : World) (K : Cont) : fX Tryd.prog 3 an3 [a0] w K = s3 a0 w K := by kernel_rfl
theorem c3 (a0 : Value) (w : World) (K : Cont) (h : s3 a0 w K) : callX Tryd.prog 3 [a0] w K := fX_call mixed (e3 a0 w K) h

end Go.Proofs.YtgnmelnohclpgaaDoor
