/- Meanings of functions: journal -/
import Derived.Test.YtgnmelnohclpgaaDoorSxS
set_option linter.unusedVariables false
namespace Go.Proofs.YtgnmelnohclpgaaDoor
open Go

/-- berthing/journal.Frame -/
def an37 : Ann := (.n none .nil .o (.n none .nil .o (.n none .nil (.n none (.one 0 (.one 3 (.one 1 (.one 4 (.eff (.alt 2 none (.eff (.alt 5 (some [2, 4, 1, 3, 0]) (.one 6 .nil) .stop)) .stop)))))) .o .o) .o)))
def s37 (a0 : Value) (w : World) (K : Cont) : Prop :=
  boxX 62 a0 w fun t1 w1 =>
  fieldAddrX 1 t1 fun t2 =>
  load1X t2 w1 fun t3 =>
  lenSX t3 fun t4 =>
  gtX t4 (Value.int IntKind.i64 65536) fun t5 =>
  brX t5
    (K (Value.tuple #[Value.slice none 0 0, Value.int IntKind.i64 3]) w1)
  (∀ (w2 : World), (Drew w1 w2 →
  ∃ (S1 : World → Prop), (S1 w2 ∧
  fieldAddrX 0 t1 fun t6 =>
  fieldAddrX 1 t1 fun t7 =>
  load1H S1 t6 fun t8 =>
  load1H S1 t7 fun t9 =>
  callX Tryd.prog 82 [Value.slice none 0 0, t8] w2 fun t10 w3 =>
  (S1 w3 ∧
  appendX 5 1 1 [Value.int IntKind.u8 0] t10 t9 w3 fun t11 w4 =>
  lenSX t11 fun t12 =>
  convIX IntKind.u32 t12 fun t13 =>
  callX Tryd.prog 99 [Value.slice none 0 0, t13] w4 fun t14 w5 =>
  buildSX 42 1 [t11] w5 fun t15 w6 =>
  callX Tryd.prog 100 [t15] w6 fun t16 w7 =>
  callX Tryd.prog 99 [t14, t16] w7 fun t17 w8 =>
  appendX 5 1 1 [Value.int IntKind.u8 0] t17 t11 w8 fun t18 w9 =>
  K (Value.tuple #[t18, Value.int IntKind.i64 0]) w9))))
theorem e37 (a0 : Value) (w : World) (K : Cont) : fX Tryd.prog 37 an37 [a0] w K = s37 a0 w K := by kernel_rfl
theorem c37 (a0 : Value) (w : World) (K : Cont) (h : s37 a0 w K) : callX Tryd.prog 37 [a0] w K := fX_call mixed (e37 a0 w K) h

/-- berthing/berthingref05.Frame -/
def an38 : Ann := (.n none .nil .o (.n none .nil .o (.n none .nil (.n none (.one 0 (.one 3 (.one 1 (.one 4 (.eff (.alt 2 none (.one 5 (.one 6 .nil)) .stop)))))) .o .o) .o)))
def s38 (a0 : Value) (w : World) (K : Cont) : Prop :=
  boxX 68 a0 w fun t1 w1 =>
  fieldAddrX 1 t1 fun t2 =>
  load1X t2 w1 fun t3 =>
  lenStrX t3 fun t4 =>
  gtX t4 (Value.int IntKind.i64 65536) fun t5 =>
  brX t5
    (K (Value.tuple #[Value.string { data := #[] }, Value.int IntKind.i64 3]) w1)
  (∀ (w2 : World), (Drew w1 w2 →
  ∃ (S1 : World → Prop), (S1 w2 ∧
  fieldAddrX 0 t1 fun t6 =>
  fieldAddrX 1 t1 fun t7 =>
  load1H S1 t6 fun t8 =>
  load1H S1 t7 fun t9 =>
  callX Tryd.prog 96 [Value.string { data := #[] }, t8] w2 fun t10 w3 =>
  (S1 w3 ∧
  addX t10 t9 fun t11 =>
  lenStrX t11 fun t12 =>
  convIX IntKind.u32 t12 fun t13 =>
  callX Tryd.prog 101 [t13] w3 fun t14 w4 =>
  callX Tryd.prog 102 [t11] w4 fun t15 w5 =>
  callX Tryd.prog 101 [t15] w5 fun t16 w6 =>
  addX t14 t16 fun t17 =>
  addX t17 t11 fun t18 =>
  K (Value.tuple #[t18, Value.int IntKind.i64 0]) w6))))
theorem e38 (a0 : Value) (w : World) (K : Cont) : fX Tryd.prog 38 an38 [a0] w K = s38 a0 w K := by kernel_rfl
theorem c38 (a0 : Value) (w : World) (K : Cont) (h : s38 a0 w K) : callX Tryd.prog 38 [a0] w K := fX_call mixed (e38 a0 w K) h

/-- berthing/berthinglaw05.own -/
def an39 : Ann := .o
def s39 (a0 : Value) (w : World) (K : Cont) : Prop :=
  boxX 62 a0 w fun t1 w1 =>
  newX 68 [Value.int IntKind.i64 0, Value.string { data := #[] }] w1 fun t2 w2 =>
  fieldAddrX 0 t1 fun t3 =>
  load1X t3 w2 fun t4 =>
  fieldAddrX 1 t1 fun t5 =>
  load1X t5 w2 fun t6 =>
  strX t6 w2 fun t7 =>
  buildX [Value.int IntKind.i64 0, Value.string { data := #[] }] [(0, 1, t4), (1, 1, t7)] fun t8 =>
  storeNX 2 t2 t8 w2 fun w3 =>
  loadNX 2 t2 w3 fun t9 =>
  K t9 w3
theorem e39 (a0 : Value) (w : World) (K : Cont) : fX Tryd.prog 39 an39 [a0] w K = s39 a0 w K := by kernel_rfl
theorem c39 (a0 : Value) (w : World) (K : Cont) (h : s39 a0 w K) : callX Tryd.prog 39 [a0] w K := fX_call mixed (e39 a0 w K) h

/-- berthing/journal.first -/
def an164 : Ann := (.n none .nil .o (.n none .nil .o (.n none .nil .o (.n none .nil (.n none .nil (.n (some ([17, 18, 19, 20, 21, 22, 23, 24, 25], [25])) .nil .o .o) .o) (.n none .nil .o (.n none .nil .o (.n none .nil .o (.n none .nil .o (.n none .nil (.n none .nil (.n (some ([41, 42, 43, 44, 45, 46, 47, 48, 49, 50, 51, 52, 53, 54, 55, 56, 57, 58], [58])) .nil .o .o) .o) .o)))))))))
def s164 (a0 : Value) (w : World) (K : Cont) : Prop :=
  newX 62 [Value.int IntKind.i64 0, Value.slice none 0 0] w fun t1 w1 =>
  lenSX a0 fun t2 =>
  ltX t2 (Value.int IntKind.i64 8) fun t3 =>
  brX t3
    (buildX [Value.int IntKind.i64 0, Value.slice none 0 0] [] fun t4 =>
     storeNX 2 t1 t4 w1 fun w2 =>
     loadNX 2 t1 w2 fun t5 =>
     K (Value.tuple #[t5, Value.int IntKind.i64 0, Value.bool false]) w2)
  (callX Tryd.prog 183 [a0] w1 fun t6 w3 =>
  convIX IntKind.i64 t6 fun t7 =>
  joinX (α := Value → World → Prop)
  (fun t8 w4 =>
   brX t8
     (buildX [Value.int IntKind.i64 0, Value.slice none 0 0] [] fun t9 =>
      storeNX 2 t1 t9 w4 fun w5 =>
      loadNX 2 t1 w5 fun t10 =>
      K (Value.tuple #[t10, Value.int IntKind.i64 0, Value.bool false]) w5)
   (addX (Value.int IntKind.i64 8) t7 fun t11 =>
   addX (Value.int IntKind.i64 8) t7 fun t12 =>
   sliceX 1 a0 (some (Value.int IntKind.i64 8)) (some t11) (some t12) fun t13 =>
   callX Tryd.prog 84 [t13] w4 fun t14 w6 =>
   callX Tryd.prog 86 [t14] w6 fun t15 w7 =>
   callX Tryd.prog 91 [t14] w7 fun t16 w8 =>
   subX t7 t16 fun t17 =>
   joinX (α := Value → World → Prop)
   (fun t18 w9 =>
    brX t18
      (buildX [Value.int IntKind.i64 0, Value.slice none 0 0] [] fun t19 =>
       storeNX 2 t1 t19 w9 fun w10 =>
       loadNX 2 t1 w10 fun t20 =>
       K (Value.tuple #[t20, Value.int IntKind.i64 0, Value.bool false]) w10)
    (buildSX 5 1 [] w9 fun t21 w11 =>
    sliceX 1 t13 (some t17) none none fun t22 =>
    appendX 5 1 1 [Value.int IntKind.u8 0] t21 t22 w11 fun t23 w12 =>
    buildX [Value.int IntKind.i64 0, Value.slice none 0 0] [(0, 1, t15), (1, 1, t23)] fun t24 =>
    addX (Value.int IntKind.i64 8) t7 fun t25 =>
    storeNX 2 t1 t24 w12 fun w13 =>
    loadNX 2 t1 w13 fun t26 =>
    K (Value.tuple #[t26, t25, Value.bool true]) w13))
   fun J1 =>
   sliceX 1 a0 (some (Value.int IntKind.i64 4)) none none fun t27 =>
   callX Tryd.prog 183 [t27] w8 fun t28 w14 =>
   buildSX 42 1 [t13] w14 fun t29 w15 =>
   callX Tryd.prog 100 [t29] w15 fun t30 w16 =>
   neX EqK.num t28 t30 fun t31 =>
   brX t31
     (J1 (Value.bool true) w16)
   (callX Tryd.prog 90 [t14] w16 fun t32 w17 =>
   neX EqK.num t32 (Value.int IntKind.i64 0) fun t33 =>
   brX t33
     (J1 (Value.bool true) w17)
   (subX t7 t17 fun t34 =>
   gtX t34 (Value.int IntKind.i64 65536) fun t35 =>
   J1 t35 w17))))
  fun J2 =>
  gtX t7 (Value.int IntKind.i64 65546) fun t36 =>
  brX t36
    (J2 (Value.bool true) w3)
  (lenSX a0 fun t37 =>
  subX t37 (Value.int IntKind.i64 8) fun t38 =>
  gtX t7 t38 fun t39 =>
  J2 t39 w3))
theorem e164 (a0 : Value) (w : World) (K : Cont) : fX Tryd.prog 164 an164 [a0] w K = s164 a0 w K := by kernel_rfl
theorem c164 (a0 : Value) (w : World) (K : Cont) (h : s164 a0 w K) : callX Tryd.prog 164 [a0] w K := fX_call mixed (e164 a0 w K) h

/-- berthing/journal.records$1 -/
def an163 : Ann := (.n none .nil .o (.n none .nil (.n (some ([3, 4, 5, 6, 7, 8, 9, 10, 11, 12, 13, 14, 15, 16, 17, 18, 19, 20, 21, 22, 23, 24, 25, 26], [3])) .nil (.n none .nil (.n none .nil .o (.n none .nil .o (.n none .nil (.n (some ([18, 19, 20, 21, 22, 23, 24, 25, 26], [26])) .nil .o .o) .o))) .o) .o) .o))
def s163 (a0 a1 : Value) (w : World) (K : Cont) : Prop :=
  ∃ (I1 : Value → World → Prop), ∃ (m2 : Value → World → Nat), (I1 (Value.int IntKind.i64 0) w ∧
  ∀ (t1 : Value), ∀ (w1 : World), (I1 t1 w1 →
  load1X a1 w1 fun t2 =>
  sliceX 1 t2 (some t1) none none fun t3 =>
  callX Tryd.prog 164 [t3] w1 fun t4 w2 =>
  extractX t4 0 fun t5 =>
  extractX t4 1 fun t6 =>
  extractX t4 2 fun t7 =>
  newX 62 [Value.int IntKind.i64 0, Value.slice none 0 0] w2 fun t8 w3 =>
  storeNX 2 t8 t5 w3 fun w4 =>
  addX t1 t6 fun t9 =>
  joinX (α := Value → World → Prop)
  (fun t10 w5 =>
   brX t10
     (K (Value.tuple #[]) w5)
   ((I1 t9 w5 ∧
   lessN (m2 t9 w5) (m2 t1 w1))))
  fun J3 =>
  notX t7 fun t11 =>
  brX t11
    (J3 (Value.bool true) w4)
  (loadNX 2 t8 w4 fun t12 =>
  fvX Tryd.prog a0 [t9, t12] w4 fun t13 w6 =>
  notX t13 fun t14 =>
  J3 t14 w6)))
theorem e163 (a0 a1 : Value) (w : World) (K : Cont) : fX Tryd.prog 163 an163 [a0, a1] w K = s163 a0 a1 w K := by kernel_rfl
theorem c163 (a0 a1 : Value) (w : World) (K : Cont) (h : s163 a0 a1 w K) : callX Tryd.prog 163 [a0, a1] w K := fX_call mixed (e163 a0 a1 w K) h

/-- berthing/journal.records -/
def an103 : Ann := .o
def s103 (a0 : Value) (w : World) (K : Cont) : Prop :=
  boxX 42 a0 w fun t1 w1 =>
  K (Value.func (Fn.func 163) #[] #[t1]) w1
theorem e103 (a0 : Value) (w : World) (K : Cont) : fX Tryd.prog 103 an103 [a0] w K = s103 a0 w K := by kernel_rfl
theorem c103 (a0 : Value) (w : World) (K : Cont) (h : s103 a0 w K) : callX Tryd.prog 103 [a0] w K := fX_call mixed (e103 a0 w K) h

/-- berthing/journal.Parse -/
def an40 : Ann := (.n none .nil .o (.n none .nil .o (.n none .nil .o (.n none .nil (.n none .nil .o (.n none .nil (.n none .nil .o .o) .o)) (.n none .nil (.n none (.one 0 (.one 2 (.one 1 (.one 3 .nil)))) .o .o) .o)))))
def s40 (a0 : Value) (w : World) (K : Cont) : Prop :=
  newX 70 [Value.slice none 0 0] w fun t1 w1 =>
  newX 3 [Value.int IntKind.i64 0] w1 fun t2 w2 =>
  store1X t2 (Value.int IntKind.i64 0) w2 fun w3 =>
  callX Tryd.prog 103 [a0] w3 fun t3 w4 =>
  rangeV Tryd.prog t3 fun n1 J2 =>
  ∀ (n3 : Nat), ∀ (w5 : World), ∀ (o4 : Obj), ∀ (o5 : Obj), ∀ (o6 : Obj), (Entered w4 w5 n3 o4 →
  ((∀ (t4 : Value), ∀ (t5 : Value), ∀ (w6 : World), ∀ (K7 : Value → World → Prop), (AtX w6 n3 o4 →
  ((newX 62 [Value.int IntKind.i64 0, Value.slice none 0 0] w6 fun t6 w7 =>
  storeNX 2 t6 t5 w7 fun w8 =>
  (AtX w8 n3 o4 ∧
  ∀ (w9 : World), (Sto w8 w9 n3 o5 →
  load1X t1 w9 fun t7 =>
  loadNX 2 t6 w9 fun t8 =>
  buildSX 62 2 [t8] w9 fun t9 w10 =>
  appendX 62 2 32 [Value.int IntKind.i64 0, Value.slice none 0 0] t7 t9 w10 fun t10 w11 =>
  store1X t1 t10 w11 fun w12 =>
  store1X t2 t4 w12 fun w13 =>
  (AtX w13 n3 o5 ∧
  ∀ (w14 : World), (Sto w13 w14 n3 o4 →
  K7 (Value.bool true) w14))))) →
  yieldX Tryd.prog n3 [t4, t5] w6 K7))) →
  callX Tryd.prog n1 (Value.func (Fn.yield n3) #[] #[] :: J2) w5 fun t11 w15 =>
  (AtX w15 n3 o4 ∧
  ∀ (w16 : World), (Sto w15 w16 n3 o6 →
  ∀ (w17 : World), (Drew w16 w17 →
  ∃ (S8 : World → Prop), (S8 w17 ∧
  load1H S8 t1 fun t12 =>
  load1H S8 t2 fun t13 =>
  (AtX w17 (n3 - 1) (Obj.deferred (some [])) ∧
  ∀ (w18 : World), (Sto w17 w18 (n3 - 1) (Obj.deferred none) →
  K (Value.tuple #[t12, t13]) w18))))))))
theorem e40 (a0 : Value) (w : World) (K : Cont) : fRX Tryd.prog 40 an40 [a0] w K = s40 a0 w K := by kernel_rfl
theorem c40 (a0 : Value) (w : World) (K : Cont) (h : s40 a0 w K) : callX Tryd.prog 40 [a0] w K := fRX_call mixed (e40 a0 w K) h

/-- berthing/berthingref05.Parse -/
def an41 : Ann := (.n none .nil .o (.n none .nil .o (.n none .nil .o (.n none .nil (.n none .nil (.n (some ([2, 3, 4, 5, 6, 7, 8, 9, 10, 11, 12, 13, 14, 15, 16, 17, 18, 19, 20, 21, 22, 23, 24, 25, 26, 27, 28, 29, 30, 31, 32, 33, 34, 35, 36, 37, 38, 39, 40, 41, 42, 43, 44, 45, 46, 47, 48, 49, 50, 51, 52, 53, 54, 55, 56, 57, 58, 59, 60, 61, 62, 63, 64, 65, 66, 67, 68, 69, 70, 71, 72, 73, 74, 75, 76, 77, 78, 79, 80, 81, 82], [4, 5])) .nil (.n none .nil .o (.n none .nil (.n none .nil .o (.n none .nil (.n none .nil (.n (some ([22, 23, 24, 25, 26, 27, 28, 29, 30, 31, 32], [32])) .nil .o .o) .o) (.n none .nil .o (.n none .nil .o (.n none .nil (.n none .nil (.n (some ([49, 50, 51, 52, 53, 54, 55, 56, 57, 58, 59, 60, 61, 62, 63, 64, 65, 66, 67, 68, 69], [69])) .nil .o .o) .o) .o))))) .o)) .o) .o) .o))))
def s41 (a0 : Value) (w : World) (K : Cont) : Prop :=
  ∃ (I1 : Value → Value → World → Prop), ∃ (m2 : Value → Value → World → Nat), (I1 (Value.slice none 0 0) (Value.int IntKind.i64 0) w ∧
  ∀ (t1 : Value), ∀ (t2 : Value), ∀ (w1 : World), (I1 t1 t2 w1 →
  lenStrX a0 fun t3 =>
  subX t3 t2 fun t4 =>
  geX t4 (Value.int IntKind.i64 8) fun t5 =>
  brX t5
    (addX t2 (Value.int IntKind.i64 4) fun t6 =>
     sliceStrX a0 (some t2) (some t6) fun t7 =>
     callX Tryd.prog 104 [t7] w1 fun t8 w2 =>
     convIX IntKind.i64 t8 fun t9 =>
     joinX (α := Value → World → Prop)
     (fun t10 w3 =>
      brX t10
        (K (Value.tuple #[t1, t2]) w3)
      (addX t2 (Value.int IntKind.i64 8) fun t11 =>
      addX t2 (Value.int IntKind.i64 8) fun t12 =>
      addX t12 t9 fun t13 =>
      sliceStrX a0 (some t11) (some t13) fun t14 =>
      buildX [Value.string { data := #[] }, Value.int IntKind.i64 0] [(0, 1, t14)] fun t15 =>
      callX Tryd.prog 92 [t15] w3 fun t16 w4 =>
      extractX t16 0 fun t17 =>
      extractX t16 1 fun t18 =>
      newX 161 [Value.string { data := #[] }, Value.int IntKind.i64 0] w4 fun t19 w5 =>
      storeNX 2 t19 t17 w5 fun w6 =>
      joinX (α := Value → World → Prop)
      (fun t20 w7 =>
       brX t20
         (K (Value.tuple #[t1, t2]) w7)
       (fieldAddrX 0 t19 fun t21 =>
       load1X t21 w7 fun t22 =>
       buildX [Value.int IntKind.i64 0, Value.string { data := #[] }] [(0, 1, t18), (1, 1, t22)] fun t23 =>
       buildSX 68 2 [t23] w7 fun t24 w8 =>
       appendX 68 2 24 [Value.int IntKind.i64 0, Value.string { data := #[] }] t1 t24 w8 fun t25 w9 =>
       addX t2 (Value.int IntKind.i64 8) fun t26 =>
       addX t26 t9 fun t27 =>
       (I1 t25 t27 w9 ∧
       lessN (m2 t25 t27 w9) (m2 t1 t2 w1))))
      fun J3 =>
      addX t2 (Value.int IntKind.i64 4) fun t28 =>
      addX t2 (Value.int IntKind.i64 8) fun t29 =>
      sliceStrX a0 (some t28) (some t29) fun t30 =>
      callX Tryd.prog 104 [t30] w6 fun t31 w10 =>
      callX Tryd.prog 102 [t14] w10 fun t32 w11 =>
      neX EqK.num t31 t32 fun t33 =>
      brX t33
        (J3 (Value.bool true) w11)
      (fieldAddrX 1 t19 fun t34 =>
      load1X t34 w11 fun t35 =>
      neX EqK.num t35 (Value.int IntKind.i64 0) fun t36 =>
      brX t36
        (J3 (Value.bool true) w11)
      (fieldAddrX 0 t19 fun t37 =>
      load1X t37 w11 fun t38 =>
      lenStrX t38 fun t39 =>
      gtX t39 (Value.int IntKind.i64 65536) fun t40 =>
      J3 t40 w11))))
     fun J4 =>
     gtX t9 (Value.int IntKind.i64 65546) fun t41 =>
     brX t41
       (J4 (Value.bool true) w2)
     (lenStrX a0 fun t42 =>
     subX t42 t2 fun t43 =>
     subX t43 (Value.int IntKind.i64 8) fun t44 =>
     gtX t9 t44 fun t45 =>
     J4 t45 w2))
  (K (Value.tuple #[t1, t2]) w1)))
theorem e41 (a0 : Value) (w : World) (K : Cont) : fX Tryd.prog 41 an41 [a0] w K = s41 a0 w K := by kernel_rfl
theorem c41 (a0 : Value) (w : World) (K : Cont) (h : s41 a0 w K) : callX Tryd.prog 41 [a0] w K := fX_call mixed (e41 a0 w K) h

end Go.Proofs.YtgnmelnohclpgaaDoor
