/- Meanings of functions: bits, health, fleet -/
import Derived.Test.YtgnmelnohclpgaaDoorSxS
set_option linter.unusedVariables false
namespace Go.Proofs.YtgnmelnohclpgaaDoor
open Go

/-- berthing/bits.bit -/
def an145 : Ann := (.n none .nil .o (.n none .nil (.n none .nil (.n (some ([3, 4, 5, 6, 7, 8], [8])) .nil .o .o) .o) .o))
def s145 (a0 : Value) (w : World) (K : Cont) : Prop :=
  joinX (α := Value → World → Prop)
  (fun t1 w1 =>
   brX t1
     (K (Value.int IntKind.u64 0) w1) <|
   shlX (Value.int IntKind.u64 1) a0 fun t2 =>
   K t2 w1)
  <| fun J1 =>
  ltX a0 (Value.int IntKind.i64 0) fun t3 =>
  brX t3
    (J1 (Value.bool true) w) <|
  geX a0 (Value.int IntKind.i64 64) fun t4 =>
  J1 t4 w
theorem e145 (a0 : Value) (w : World) (K : Cont) : fX Tryd.prog 145 an145 [a0] w K = s145 a0 w K := by kernel_rfl
theorem c145 (a0 : Value) (w : World) (K : Cont) (h : s145 a0 w K) : callX Tryd.prog 145 [a0] w K := fX_call mixed (e145 a0 w K) h

/-- (berthing/bits.Set).With -/
def an79 : Ann := .o
def s79 (a0 a1 : Value) (w : World) (K : Cont) : Prop :=
  callX Tryd.prog 145 [a1] w fun t1 w1 =>
  orX a0 t1 fun t2 =>
  K t2 w1
theorem e79 (a0 a1 : Value) (w : World) (K : Cont) : fX Tryd.prog 79 an79 [a0, a1] w K = s79 a0 a1 w K := by kernel_rfl
theorem c79 (a0 a1 : Value) (w : World) (K : Cont) (h : s79 a0 a1 w K) : callX Tryd.prog 79 [a0, a1] w K := fX_call mixed (e79 a0 a1 w K) h

/-- (berthing/bits.Set).Without -/
def an143 : Ann := .o
def s143 (a0 a1 : Value) (w : World) (K : Cont) : Prop :=
  callX Tryd.prog 145 [a1] w fun t1 w1 =>
  andNotX a0 t1 fun t2 =>
  K t2 w1
theorem e143 (a0 a1 : Value) (w : World) (K : Cont) : fX Tryd.prog 143 an143 [a0, a1] w K = s143 a0 a1 w K := by kernel_rfl
theorem c143 (a0 a1 : Value) (w : World) (K : Cont) (h : s143 a0 a1 w K) : callX Tryd.prog 143 [a0, a1] w K := fX_call mixed (e143 a0 a1 w K) h

/-- (berthing/bits.Set).Less -/
def an73 : Ann := .o
def s73 (a0 a1 : Value) (w : World) (K : Cont) : Prop :=
  andNotX a0 a1 fun t1 =>
  K t1 w
theorem e73 (a0 a1 : Value) (w : World) (K : Cont) : fX Tryd.prog 73 an73 [a0, a1] w K = s73 a0 a1 w K := by kernel_rfl
theorem c73 (a0 a1 : Value) (w : World) (K : Cont) (h : s73 a0 a1 w K) : callX Tryd.prog 73 [a0, a1] w K := fX_call mixed (e73 a0 a1 w K) h

/-- (berthing/bits.Set).And -/
def an48 : Ann := .o
def s48 (a0 a1 : Value) (w : World) (K : Cont) : Prop :=
  andX a0 a1 fun t1 =>
  K t1 w
theorem e48 (a0 a1 : Value) (w : World) (K : Cont) : fX Tryd.prog 48 an48 [a0, a1] w K = s48 a0 a1 w K := by kernel_rfl
theorem c48 (a0 a1 : Value) (w : World) (K : Cont) (h : s48 a0 a1 w K) : callX Tryd.prog 48 [a0, a1] w K := fX_call mixed (e48 a0 a1 w K) h

/-- (berthing/bits.Set).Len -/
def an47 : Ann := .o
def s47 (a0 : Value) (w : World) (K : Cont) : Prop :=
  callX Tryd.prog 110 [a0] w fun t1 w1 =>
  K t1 w1
theorem e47 (a0 : Value) (w : World) (K : Cont) : fX Tryd.prog 47 an47 [a0] w K = s47 a0 w K := by kernel_rfl
theorem c47 (a0 : Value) (w : World) (K : Cont) (h : s47 a0 w K) : callX Tryd.prog 47 [a0] w K := fX_call mixed (e47 a0 w K) h

/-- (berthing/bits.Set).Has -/
def an109 : Ann := .o
def s109 (a0 a1 : Value) (w : World) (K : Cont) : Prop :=
  callX Tryd.prog 145 [a1] w fun t1 w1 =>
  andX a0 t1 fun t2 =>
  neX EqK.num t2 (Value.int IntKind.u64 0) fun t3 =>
  K t3 w1
theorem e109 (a0 a1 : Value) (w : World) (K : Cont) : fX Tryd.prog 109 an109 [a0, a1] w K = s109 a0 a1 w K := by kernel_rfl
theorem c109 (a0 a1 : Value) (w : World) (K : Cont) (h : s109 a0 a1 w K) : callX Tryd.prog 109 [a0, a1] w K := fX_call mixed (e109 a0 a1 w K) h

/-- berthing/bits.First -/
def an137 : Ann := .o
def s137 (a0 : Value) (w : World) (K : Cont) : Prop :=
  ltX a0 (Value.int IntKind.i64 1) fun t1 =>
  brX t1
    (K (Value.int IntKind.u64 0) w) <|
  geX a0 (Value.int IntKind.i64 64) fun t2 =>
  brX t2
    (K (Value.int IntKind.u64 18446744073709551615) w) <|
  shlX (Value.int IntKind.u64 1) a0 fun t3 =>
  subX t3 (Value.int IntKind.u64 1) fun t4 =>
  K t4 w
theorem e137 (a0 : Value) (w : World) (K : Cont) : fX Tryd.prog 137 an137 [a0] w K = s137 a0 w K := by kernel_rfl
theorem c137 (a0 : Value) (w : World) (K : Cont) (h : s137 a0 w K) : callX Tryd.prog 137 [a0] w K := fX_call mixed (e137 a0 w K) h

/-- (berthing/bits.Set).Lowest -/
def an172 : Ann := .o
def s172 (a0 : Value) (w : World) (K : Cont) : Prop :=
  eqX EqK.num a0 (Value.int IntKind.u64 0) fun t1 =>
  brX t1
    (K (Value.int IntKind.i64 (-1)) w) <|
  callX Tryd.prog 187 [a0] w fun t2 w1 =>
  K t2 w1
theorem e172 (a0 : Value) (w : World) (K : Cont) : fX Tryd.prog 172 an172 [a0] w K = s172 a0 w K := by kernel_rfl
theorem c172 (a0 : Value) (w : World) (K : Cont) (h : s172 a0 w K) : callX Tryd.prog 172 [a0] w K := fX_call mixed (e172 a0 w K) h

/-- math/bits.TrailingZeros64 -/
def an187 : Ann := .o
def s187 (a0 : Value) (w : World) (K : Cont) : Prop :=
  eqX EqK.num a0 (Value.int IntKind.u64 0) fun t1 =>
  brX t1
    (K (Value.int IntKind.i64 64) w) <|
  negX a0 fun t2 =>
  andX a0 t2 fun t3 =>
  mulX t3 (Value.int IntKind.u64 285870213051353865) fun t4 =>
  shrX t4 (Value.int IntKind.u64 58) fun t5 =>
  indexAX 64 1 (Value.pointer (some { block := 1, off := 0 })) t5 fun t6 =>
  load1X t6 w fun t7 =>
  convIX IntKind.i64 t7 fun t8 =>
  K t8 w
theorem e187 (a0 : Value) (w : World) (K : Cont) : fX Tryd.prog 187 an187 [a0] w K = s187 a0 w K := by kernel_rfl
theorem c187 (a0 : Value) (w : World) (K : Cont) (h : s187 a0 w K) : callX Tryd.prog 187 [a0] w K := fX_call mixed (e187 a0 w K) h

/-- berthing/health.within -/
def an171 : Ann := .o
def s171 (a0 a1 a2 : Value) (w : World) (K : Cont) : Prop :=
  geX a0 a1 fun t1 =>
  brX t1
    (ltX a0 a2 fun t2 =>
     K t2 w) <|
  K (Value.bool false) w
theorem e171 (a0 a1 a2 : Value) (w : World) (K : Cont) : fX Tryd.prog 171 an171 [a0, a1, a2] w K = s171 a0 a1 a2 w K := by kernel_rfl
theorem c171 (a0 a1 a2 : Value) (w : World) (K : Cont) (h : s171 a0 a1 a2 w K) : callX Tryd.prog 171 [a0, a1, a2] w K := fX_call mixed (e171 a0 a1 a2 w K) h

/-- (berthing/health.Rules).Right -/
def an136 : Ann := .o
def s136 (a0 : Value) (w : World) (K : Cont) : Prop :=
  boxX 29 a0 w fun t1 w1 =>
  fieldAddrX 0 t1 fun t2 =>
  load1X t2 w1 fun t3 =>
  geX t3 (Value.int IntKind.i64 1) fun t4 =>
  brX t4
    (fieldAddrX 1 t1 fun t5 =>
     load1X t5 w1 fun t6 =>
     fieldAddrX 0 t1 fun t7 =>
     load1X t7 w1 fun t8 =>
     gtX t6 t8 fun t9 =>
     brX t9
       (fieldAddrX 1 t1 fun t10 =>
        load1X t10 w1 fun t11 =>
        leX t11 (Value.int IntKind.i64 1000) fun t12 =>
        brX t12
          (fieldAddrX 2 t1 fun t13 =>
           load1X t13 w1 fun t14 =>
           callX Tryd.prog 171 [t14, Value.int IntKind.i64 1, Value.int IntKind.i64 1001] w1 fun t15 w2 =>
           K t15 w2) <|
        K (Value.bool false) w1) <|
     K (Value.bool false) w1) <|
  K (Value.bool false) w1
theorem e136 (a0 : Value) (w : World) (K : Cont) : fX Tryd.prog 136 an136 [a0] w K = s136 a0 w K := by kernel_rfl
theorem c136 (a0 : Value) (w : World) (K : Cont) (h : s136 a0 w K) : callX Tryd.prog 136 [a0] w K := fX_call mixed (e136 a0 w K) h

/-- (berthing/health.Node).Right -/
def an138 : Ann := (.n none .nil .o (.n none .nil .o (.n none .nil (.n none .nil .o (.n none .nil (.n none .nil .o (.n none .nil .o (.n none .nil .o (.n none .nil .o (.n none .nil (.n none .nil .o (.n (some ([38, 40], [38])) .nil .o .o)) .o))))) .o)) .o)))
def s138 (a0 a1 : Value) (w : World) (K : Cont) : Prop :=
  boxX 33 a0 w fun t1 w1 =>
  boxX 29 a1 w1 fun t2 w2 =>
  loadNX 3 t2 w2 fun t3 =>
  callX Tryd.prog 136 [t3] w2 fun t4 w3 =>
  notX t4 fun t5 =>
  brX t5
    (K (Value.bool false) w3) <|
  fieldAddrX 0 t1 fun t6 =>
  load1X t6 w3 fun t7 =>
  eqX EqK.num t7 (Value.int IntKind.i64 0) fun t8 =>
  brX t8
    (fieldAddrX 1 t1 fun t9 =>
     load1X t9 w3 fun t10 =>
     fieldAddrX 0 t2 fun t11 =>
     load1X t11 w3 fun t12 =>
     callX Tryd.prog 171 [t10, Value.int IntKind.i64 0, t12] w3 fun t13 w4 =>
     brX t13
       (fieldAddrX 2 t1 fun t14 =>
        load1X t14 w4 fun t15 =>
        eqX EqK.num t15 (Value.int IntKind.i64 0) fun t16 =>
        K t16 w4) <|
     K (Value.bool false) w4) <|
  eqX EqK.num t7 (Value.int IntKind.i64 1) fun t17 =>
  brX t17
    (fieldAddrX 1 t1 fun t18 =>
     load1X t18 w3 fun t19 =>
     fieldAddrX 0 t2 fun t20 =>
     load1X t20 w3 fun t21 =>
     fieldAddrX 1 t2 fun t22 =>
     load1X t22 w3 fun t23 =>
     callX Tryd.prog 171 [t19, t21, t23] w3 fun t24 w5 =>
     brX t24
       (fieldAddrX 2 t1 fun t25 =>
        load1X t25 w5 fun t26 =>
        fieldAddrX 2 t2 fun t27 =>
        load1X t27 w5 fun t28 =>
        callX Tryd.prog 171 [t26, Value.int IntKind.i64 0, t28] w5 fun t29 w6 =>
        K t29 w6) <|
     K (Value.bool false) w5) <|
  eqX EqK.num t7 (Value.int IntKind.i64 2) fun t30 =>
  joinX (α := Value → World → Prop)
  (fun t31 w7 =>
   brX t31
     (loadNX 3 t1 w7 fun t32 =>
      fieldAddrX 0 t1 fun t33 =>
      load1X t33 w7 fun t34 =>
      buildX [Value.int IntKind.i64 0, Value.int IntKind.i64 0, Value.int IntKind.i64 0] [(0, 1, t34)] fun t35 =>
      eqNX 3 [(0, EqK.num), (1, EqK.num), (2, EqK.num)] t32 t35 fun t36 =>
      K t36 w7) <|
   eqX EqK.num t7 (Value.int IntKind.i64 4) fun t37 =>
   brX t37
     (fieldAddrX 1 t1 fun t38 =>
      load1X t38 w7 fun t39 =>
      eqX EqK.num t39 (Value.int IntKind.i64 0) fun t40 =>
      brX t40
        (fieldAddrX 2 t1 fun t41 =>
         load1X t41 w7 fun t42 =>
         fieldAddrX 2 t2 fun t43 =>
         load1X t43 w7 fun t44 =>
         callX Tryd.prog 171 [t42, Value.int IntKind.i64 0, t44] w7 fun t45 w8 =>
         K t45 w8) <|
      K (Value.bool false) w7) <|
   K (Value.bool false) w7)
  <| fun J1 =>
  brX t30
    (J1 (Value.bool true) w3) <|
  eqX EqK.num t7 (Value.int IntKind.i64 3) fun t46 =>
  J1 t46 w3
theorem e138 (a0 a1 : Value) (w : World) (K : Cont) : fX Tryd.prog 138 an138 [a0, a1] w K = s138 a0 a1 w K := by kernel_rfl
theorem c138 (a0 a1 : Value) (w : World) (K : Cont) (h : s138 a0 a1 w K) : callX Tryd.prog 138 [a0, a1] w K := fX_call mixed (e138 a0 a1 w K) h

/-- (berthing/health.Node).beats -/
def an139 : Ann := (.n none .nil .o (.n none .nil (.n none .nil .o (.n (some ([7, 8, 9, 10, 11, 12, 13, 14, 15, 16, 17, 18, 19, 20, 21, 22], [])) .nil (.n none .nil .o (.n none .nil .o (.n none .nil (.n none .nil .o (.n (some ([10, 12], [10])) .nil .o .o)) .o))) .o)) .o))
def s139 (a0 a1 : Value) (w : World) (K : Cont) : Prop :=
  boxX 33 a0 w fun t1 w1 =>
  boxX 29 a1 w1 fun t2 w2 =>
  newX 33 [Value.int IntKind.i64 0, Value.int IntKind.i64 0, Value.int IntKind.i64 0] w2 fun t3 w3 =>
  fieldAddrX 0 t1 fun t4 =>
  load1X t4 w3 fun t5 =>
  joinX (α := World → Prop)
  (fun w4 =>
   loadNX 3 t1 w4 fun t6 =>
   storeNX 3 t3 t6 w4 fun w5 =>
   loadNX 3 t3 w5 fun t7 =>
   K t7 w5)
  <| fun J1 =>
  eqX EqK.num t5 (Value.int IntKind.i64 0) fun t8 =>
  brX t8
    (buildX [Value.int IntKind.i64 0, Value.int IntKind.i64 0, Value.int IntKind.i64 0] [] fun t9 =>
     storeNX 3 t3 t9 w3 fun w6 =>
     loadNX 3 t3 w6 fun t10 =>
     K t10 w6) <|
  eqX EqK.num t5 (Value.int IntKind.i64 1) fun t11 =>
  joinX (α := Value → World → Prop)
  (fun t12 w7 =>
   brX t12
     (fieldAddrX 2 t1 fun t13 =>
      load1X t13 w7 fun t14 =>
      addX t14 (Value.int IntKind.i64 1) fun t15 =>
      fieldAddrX 2 t1 fun t16 =>
      store1X t16 t15 w7 fun w8 =>
      fieldAddrX 2 t1 fun t17 =>
      load1X t17 w8 fun t18 =>
      fieldAddrX 2 t2 fun t19 =>
      load1X t19 w8 fun t20 =>
      geX t18 t20 fun t21 =>
      brX t21
        (buildX [Value.int IntKind.i64 0, Value.int IntKind.i64 0, Value.int IntKind.i64 0] [] fun t22 =>
         storeNX 3 t3 t22 w8 fun w9 =>
         loadNX 3 t3 w9 fun t23 =>
         K t23 w9) <|
      J1 w8) <|
   J1 w7)
  <| fun J2 =>
  brX t11
    (J2 (Value.bool true) w3) <|
  eqX EqK.num t5 (Value.int IntKind.i64 4) fun t24 =>
  J2 t24 w3
theorem e139 (a0 a1 : Value) (w : World) (K : Cont) : fX Tryd.prog 139 an139 [a0, a1] w K = s139 a0 a1 w K := by kernel_rfl
theorem c139 (a0 a1 : Value) (w : World) (K : Cont) (h : s139 a0 a1 w K) : callX Tryd.prog 139 [a0, a1] w K := fX_call mixed (e139 a0 a1 w K) h

/-- (berthing/health.Node).misses -/
def an140 : Ann := (.n none .nil .o (.n none .nil (.n none .nil .o (.n none .nil (.n none .nil (.n none .nil .o (.n (some ([7, 9], [7])) .nil .o .o)) (.n none .nil (.n none .nil .o (.n none .nil (.n none .nil .o (.n none .nil .o (.n (some ([20], [])) .nil .o .o))) .o)) .o)) .o)) .o))
def s140 (a0 a1 : Value) (w : World) (K : Cont) : Prop :=
  boxX 33 a0 w fun t1 w1 =>
  boxX 29 a1 w1 fun t2 w2 =>
  newX 33 [Value.int IntKind.i64 0, Value.int IntKind.i64 0, Value.int IntKind.i64 0] w2 fun t3 w3 =>
  fieldAddrX 0 t1 fun t4 =>
  load1X t4 w3 fun t5 =>
  eqX EqK.num t5 (Value.int IntKind.i64 0) fun t6 =>
  joinX (α := Value → World → Prop)
  (fun t7 w4 =>
   brX t7
     (fieldAddrX 2 t1 fun t8 =>
      store1X t8 (Value.int IntKind.i64 0) w4 fun w5 =>
      fieldAddrX 1 t1 fun t9 =>
      load1X t9 w5 fun t10 =>
      addX t10 (Value.int IntKind.i64 1) fun t11 =>
      fieldAddrX 1 t1 fun t12 =>
      store1X t12 t11 w5 fun w6 =>
      fieldAddrX 1 t1 fun t13 =>
      load1X t13 w6 fun t14 =>
      fieldAddrX 0 t2 fun t15 =>
      load1X t15 w6 fun t16 =>
      geX t14 t16 fun t17 =>
      joinX (α := World → Prop)
      (fun w7 =>
       fieldAddrX 1 t1 fun t18 =>
       load1X t18 w7 fun t19 =>
       fieldAddrX 1 t2 fun t20 =>
       load1X t20 w7 fun t21 =>
       ltX t19 t21 fun t22 =>
       brX t22
         (loadNX 3 t1 w7 fun t23 =>
          storeNX 3 t3 t23 w7 fun w8 =>
          loadNX 3 t3 w8 fun t24 =>
          K t24 w8) <|
       buildX [Value.int IntKind.i64 0, Value.int IntKind.i64 0, Value.int IntKind.i64 0] [(0, 1, Value.int IntKind.i64 2)] fun t25 =>
       storeNX 3 t3 t25 w7 fun w9 =>
       loadNX 3 t3 w9 fun t26 =>
       K t26 w9)
      <| fun J1 =>
      brX t17
        (fieldAddrX 0 t1 fun t27 =>
         store1X t27 (Value.int IntKind.i64 1) w6 fun w10 =>
         J1 w10) <|
      J1 w6) <|
   eqX EqK.num t5 (Value.int IntKind.i64 4) fun t28 =>
   brX t28
     (buildX [Value.int IntKind.i64 0, Value.int IntKind.i64 0, Value.int IntKind.i64 0] [(0, 1, Value.int IntKind.i64 2)] fun t29 =>
      storeNX 3 t3 t29 w4 fun w11 =>
      loadNX 3 t3 w11 fun t30 =>
      K t30 w11) <|
   loadNX 3 t1 w4 fun t31 =>
   storeNX 3 t3 t31 w4 fun w12 =>
   loadNX 3 t3 w12 fun t32 =>
   K t32 w12)
  <| fun J2 =>
  brX t6
    (J2 (Value.bool true) w3) <|
  eqX EqK.num t5 (Value.int IntKind.i64 1) fun t33 =>
  J2 t33 w3
theorem e140 (a0 a1 : Value) (w : World) (K : Cont) : fX Tryd.prog 140 an140 [a0, a1] w K = s140 a0 a1 w K := by kernel_rfl
theorem c140 (a0 a1 : Value) (w : World) (K : Cont) (h : s140 a0 a1 w K) : callX Tryd.prog 140 [a0, a1] w K := fX_call mixed (e140 a0 a1 w K) h

/-- (berthing/health.Node).turn -/
def an141 : Ann := .o
def s141 (a0 a1 a2 : Value) (w : World) (K : Cont) : Prop :=
  boxX 33 a0 w fun t1 w1 =>
  newX 33 [Value.int IntKind.i64 0, Value.int IntKind.i64 0, Value.int IntKind.i64 0] w1 fun t2 w2 =>
  fieldAddrX 0 t1 fun t3 =>
  load1X t3 w2 fun t4 =>
  neX EqK.num t4 a1 fun t5 =>
  brX t5
    (loadNX 3 t1 w2 fun t6 =>
     storeNX 3 t2 t6 w2 fun w3 =>
     loadNX 3 t2 w3 fun t7 =>
     K t7 w3) <|
  buildX [Value.int IntKind.i64 0, Value.int IntKind.i64 0, Value.int IntKind.i64 0] [(0, 1, a2)] fun t8 =>
  storeNX 3 t2 t8 w2 fun w4 =>
  loadNX 3 t2 w4 fun t9 =>
  K t9 w4
theorem e141 (a0 a1 a2 : Value) (w : World) (K : Cont) : fX Tryd.prog 141 an141 [a0, a1, a2] w K = s141 a0 a1 a2 w K := by kernel_rfl
theorem c141 (a0 a1 a2 : Value) (w : World) (K : Cont) (h : s141 a0 a1 a2 w K) : callX Tryd.prog 141 [a0, a1, a2] w K := fX_call mixed (e141 a0 a1 a2 w K) h

/-- (berthing/health.Node).Next -/
def an75 : Ann := .o
def s75 (a0 a1 a2 : Value) (w : World) (K : Cont) : Prop :=
  boxX 33 a0 w fun t1 w1 =>
  boxX 29 a1 w1 fun t2 w2 =>
  newX 33 [Value.int IntKind.i64 0, Value.int IntKind.i64 0, Value.int IntKind.i64 0] w2 fun t3 w3 =>
  loadNX 3 t1 w3 fun t4 =>
  loadNX 3 t2 w3 fun t5 =>
  callX Tryd.prog 138 [t4, t5] w3 fun t6 w4 =>
  notX t6 fun t7 =>
  brX t7
    (loadNX 3 t1 w4 fun t8 =>
     storeNX 3 t3 t8 w4 fun w5 =>
     loadNX 3 t3 w5 fun t9 =>
     K t9 w5) <|
  eqX EqK.num a2 (Value.int IntKind.i64 0) fun t10 =>
  brX t10
    (loadNX 3 t1 w4 fun t11 =>
     loadNX 3 t2 w4 fun t12 =>
     callX Tryd.prog 139 [t11, t12] w4 fun t13 w6 =>
     storeNX 3 t3 t13 w6 fun w7 =>
     loadNX 3 t3 w7 fun t14 =>
     K t14 w7) <|
  eqX EqK.num a2 (Value.int IntKind.i64 1) fun t15 =>
  brX t15
    (loadNX 3 t1 w4 fun t16 =>
     loadNX 3 t2 w4 fun t17 =>
     callX Tryd.prog 140 [t16, t17] w4 fun t18 w8 =>
     storeNX 3 t3 t18 w8 fun w9 =>
     loadNX 3 t3 w9 fun t19 =>
     K t19 w9) <|
  eqX EqK.num a2 (Value.int IntKind.i64 2) fun t20 =>
  brX t20
    (loadNX 3 t1 w4 fun t21 =>
     callX Tryd.prog 141 [t21, Value.int IntKind.i64 2, Value.int IntKind.i64 4] w4 fun t22 w10 =>
     storeNX 3 t3 t22 w10 fun w11 =>
     loadNX 3 t3 w11 fun t23 =>
     K t23 w11) <|
  eqX EqK.num a2 (Value.int IntKind.i64 3) fun t24 =>
  brX t24
    (loadNX 3 t1 w4 fun t25 =>
     callX Tryd.prog 141 [t25, Value.int IntKind.i64 0, Value.int IntKind.i64 3] w4 fun t26 w12 =>
     storeNX 3 t3 t26 w12 fun w13 =>
     loadNX 3 t3 w13 fun t27 =>
     K t27 w13) <|
  eqX EqK.num a2 (Value.int IntKind.i64 4) fun t28 =>
  brX t28
    (loadNX 3 t1 w4 fun t29 =>
     callX Tryd.prog 141 [t29, Value.int IntKind.i64 3, Value.int IntKind.i64 4] w4 fun t30 w14 =>
     storeNX 3 t3 t30 w14 fun w15 =>
     loadNX 3 t3 w15 fun t31 =>
     K t31 w15) <|
  loadNX 3 t1 w4 fun t32 =>
  storeNX 3 t3 t32 w4 fun w16 =>
  loadNX 3 t3 w16 fun t33 =>
  K t33 w16
theorem e75 (a0 a1 a2 : Value) (w : World) (K : Cont) : fX Tryd.prog 75 an75 [a0, a1, a2] w K = s75 a0 a1 a2 w K := by kernel_rfl
theorem c75 (a0 a1 a2 : Value) (w : World) (K : Cont) (h : s75 a0 a1 a2 w K) : callX Tryd.prog 75 [a0, a1, a2] w K := fX_call mixed (e75 a0 a1 a2 w K) h

end Go.Proofs.YtgnmelnohclpgaaDoor
