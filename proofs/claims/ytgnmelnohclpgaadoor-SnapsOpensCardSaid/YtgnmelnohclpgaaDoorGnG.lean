/- The disk's functions, their meanings. -/
import Derived.Test.YtgnmelnohclpgaaDoorSxS
set_option linter.unusedVariables false
namespace Go.Proofs.YtgnmelnohclpgaaDoor
open Go

/-- (*berthing/disk.Disk).none -/
def an124 : Ann := .o
def s124 (a0 : Value) (w : World) (K : Cont) : Prop :=
  eqX EqK.ptr a0 (Value.pointer none) fun t1 =>
  brX t1
    (K (Value.bool true) w)
  (nilX a0 fun t2 =>
  fieldAddrX 0 t2 fun t3 =>
  load1X t3 w fun t4 =>
  notX t4 fun t5 =>
  K t5 w)
theorem e124 (a0 : Value) (w : World) (K : Cont) : fX Tryd.prog 124 an124 [a0] w K = s124 a0 w K := by kernel_rfl
theorem c124 (a0 : Value) (w : World) (K : Cont) (h : s124 a0 w K) : callX Tryd.prog 124 [a0] w K := fX_call mixed (e124 a0 w K) h

/-- (*berthing/disk.Disk).may -/
def an116 : Ann := (.n none .nil .o (.n none .nil (.n none .nil (.n none .nil .o (.n none .nil .o (.n none .nil .o (.n none .nil .o (.n none .nil (.n (some ([13, 14, 15, 16, 17, 18, 19], [13])) .nil .o .o) .o))))) .o) .o))
def s116 (a0 a1 : Value) (w : World) (K : Cont) : Prop :=
  callX Tryd.prog 124 [a0] w fun t1 w1 =>
  brX t1
    (K (Value.int IntKind.i64 1) w1)
  (nilX a0 fun t2 =>
  fieldAddrX 10 t2 fun t3 =>
  load1X t3 w1 fun t4 =>
  brX t4
    (K (Value.int IntKind.i64 17) w1)
  (joinX (α := Value → World → Prop)
  (fun t5 w2 =>
   brX t5
     (K (Value.int IntKind.i64 13) w2)
   (K (Value.int IntKind.i64 0) w2))
  fun J1 =>
  ltX a1 (Value.int IntKind.i64 0) fun t6 =>
  brX t6
    (J1 (Value.bool true) w1)
  (geX a1 (Value.int IntKind.i64 4) fun t7 =>
  J1 t7 w1)))
theorem e116 (a0 a1 : Value) (w : World) (K : Cont) : fX Tryd.prog 116 an116 [a0, a1] w K = s116 a0 a1 w K := by kernel_rfl
theorem c116 (a0 a1 : Value) (w : World) (K : Cont) (h : s116 a0 a1 w K) : callX Tryd.prog 116 [a0, a1] w K := fX_call mixed (e116 a0 a1 w K) h

/-- (*berthing/disk.Disk).count -/
def an167 : Ann := (.n none .nil .o (.n none .nil (.n (some ([2, 3, 4, 5, 6, 7, 8, 9, 10, 11, 12, 13, 14, 15, 16, 17, 18, 19, 20, 21, 22, 23, 24, 25, 26, 27], [])) .nil .o .o) .o))
def s167 (a0 : Value) (w : World) (K : Cont) : Prop :=
  joinX (α := World → Prop)
  (fun w1 =>
   K (Value.int IntKind.i64 0) w1)
  fun J1 =>
  nilX a0 fun t1 =>
  fieldAddrX 9 t1 fun t2 =>
  load1X t2 w fun t3 =>
  eqX EqK.num t3 (Value.int IntKind.i64 0) fun t4 =>
  brX t4
    (nilX a0 fun t5 =>
     fieldAddrX 9 t5 fun t6 =>
     store1X t6 (Value.int IntKind.i64 (-1)) w fun w2 =>
     nilX a0 fun t7 =>
     fieldAddrX 10 t7 fun t8 =>
     store1X t8 (Value.bool true) w2 fun w3 =>
     K (Value.int IntKind.i64 17) w3)
  (nilX a0 fun t9 =>
  fieldAddrX 9 t9 fun t10 =>
  load1X t10 w fun t11 =>
  gtX t11 (Value.int IntKind.i64 0) fun t12 =>
  brX t12
    (nilX a0 fun t13 =>
     fieldAddrX 9 t13 fun t14 =>
     load1X t14 w fun t15 =>
     subX t15 (Value.int IntKind.i64 1) fun t16 =>
     nilX a0 fun t17 =>
     fieldAddrX 9 t17 fun t18 =>
     store1X t18 t16 w fun w4 =>
     J1 w4)
  (J1 w))
theorem e167 (a0 : Value) (w : World) (K : Cont) : fX Tryd.prog 167 an167 [a0] w K = s167 a0 w K := by kernel_rfl
theorem c167 (a0 : Value) (w : World) (K : Cont) (h : s167 a0 w K) : callX Tryd.prog 167 [a0] w K := fX_call mixed (e167 a0 w K) h

/-- (*berthing/disk.file).lay -/
def an184 : Ann := .o
def s184 (a0 a1 : Value) (w : World) (K : Cont) : Prop :=
  nilX a0 fun t1 =>
  fieldAddrX 0 t1 fun t2 =>
  load1X t2 w fun t3 =>
  appendX 5 1 1 [Value.int IntKind.u8 0] t3 a1 w fun t4 w1 =>
  nilX a0 fun t5 =>
  fieldAddrX 0 t5 fun t6 =>
  store1X t6 t4 w1 fun w2 =>
  K (Value.tuple #[]) w2
theorem e184 (a0 a1 : Value) (w : World) (K : Cont) : fX Tryd.prog 184 an184 [a0, a1] w K = s184 a0 a1 w K := by kernel_rfl
theorem c184 (a0 a1 : Value) (w : World) (K : Cont) (h : s184 a0 a1 w K) : callX Tryd.prog 184 [a0, a1] w K := fX_call mixed (e184 a0 a1 w K) h

/-- (*berthing/disk.file).keep -/
def an125 : Ann := .o
def s125 (a0 a1 : Value) (w : World) (K : Cont) : Prop :=
  nilX a0 fun t1 =>
  fieldAddrX 0 t1 fun t2 =>
  load1X t2 w fun t3 =>
  lenSX t3 fun t4 =>
  nilX a0 fun t5 =>
  fieldAddrX 1 t5 fun t6 =>
  store1X t6 t4 w fun w1 =>
  K (Value.tuple #[]) w1
theorem e125 (a0 a1 : Value) (w : World) (K : Cont) : fX Tryd.prog 125 an125 [a0, a1] w K = s125 a0 a1 w K := by kernel_rfl
theorem c125 (a0 a1 : Value) (w : World) (K : Cont) (h : s125 a0 a1 w K) : callX Tryd.prog 125 [a0, a1] w K := fX_call mixed (e125 a0 a1 w K) h

/-- (*berthing/disk.file).clear -/
def an185 : Ann := .o
def s185 (a0 a1 : Value) (w : World) (K : Cont) : Prop :=
  buildX [Value.slice none 0 0, Value.int IntKind.i64 0] [] fun t1 =>
  nilX a0 fun t2 =>
  storeNX 2 t2 t1 w fun w1 =>
  K (Value.tuple #[]) w1
theorem e185 (a0 a1 : Value) (w : World) (K : Cont) : fX Tryd.prog 185 an185 [a0, a1] w K = s185 a0 a1 w K := by kernel_rfl
theorem c185 (a0 a1 : Value) (w : World) (K : Cont) (h : s185 a0 a1 w K) : callX Tryd.prog 185 [a0, a1] w K := fX_call mixed (e185 a0 a1 w K) h

/-- (*berthing/disk.file).does -/
def an168 : Ann := (.n none .nil .o (.n none .nil (.n none .nil .o (.n (some ([6, 8, 9, 10, 11], [6])) .nil .o .o)) .o))
def s168 (a0 a1 a2 : Value) (w : World) (K : Cont) : Prop :=
  joinX (α := Value → World → Prop)
  (fun t1 w1 =>
   fvX Tryd.prog t1 [a0, a2] w1 fun t2 w2 =>
   K (Value.tuple #[]) w2)
  fun J1 =>
  eqX EqK.num a1 (Value.int IntKind.i64 1) fun t3 =>
  brX t3
    (J1 (Value.func (Fn.func 125) #[] #[]) w)
  (eqX EqK.num a1 (Value.int IntKind.i64 2) fun t4 =>
  brX t4
    (J1 (Value.func (Fn.func 185) #[] #[]) w)
  (J1 (Value.func (Fn.func 184) #[] #[]) w))
theorem e168 (a0 a1 a2 : Value) (w : World) (K : Cont) : fX Tryd.prog 168 an168 [a0, a1, a2] w K = s168 a0 a1 a2 w K := by kernel_rfl
theorem c168 (a0 a1 a2 : Value) (w : World) (K : Cont) (h : s168 a0 a1 a2 w K) : callX Tryd.prog 168 [a0, a1, a2] w K := fX_call mixed (e168 a0 a1 a2 w K) h

/-- (*berthing/disk.Disk).call -/
def an115 : Ann := (.n none .nil .o (.n none .nil .o (.n none .nil .o (.n none .nil .o (.n none .nil (.n none .nil (.n (some ([31, 32, 33, 34, 35, 36], [36])) .nil .o .o) (.n (some ([37, 38, 39, 40, 41, 42, 43, 44], [])) .nil .o .o)) .o)))))
def s115 (a0 a1 a2 a3 : Value) (w : World) (K : Cont) : Prop :=
  callX Tryd.prog 116 [a0, a2] w fun t1 w1 =>
  neX EqK.num t1 (Value.int IntKind.i64 0) fun t2 =>
  brX t2
    (K t1 w1)
  (lenSX a3 fun t3 =>
  nilX a0 fun t4 =>
  fieldAddrX 1 t4 fun t5 =>
  indexAX 4 2 t5 a2 fun t6 =>
  fieldAddrX 0 t6 fun t7 =>
  load1X t7 w1 fun t8 =>
  lenSX t8 fun t9 =>
  subX (Value.int IntKind.i64 1048576) t9 fun t10 =>
  gtX t3 t10 fun t11 =>
  brX t11
    (K (Value.int IntKind.i64 15) w1)
  (callX Tryd.prog 167 [a0] w1 fun t12 w2 =>
  joinX (α := Value → World → Prop)
  (fun t13 w3 =>
   joinX (α := World → Prop)
   (fun w4 =>
    K t12 w4)
   fun J1 =>
   brX t13
     (nilX a0 fun t14 =>
      fieldAddrX 1 t14 fun t15 =>
      indexAX 4 2 t15 a2 fun t16 =>
      callX Tryd.prog 168 [t16, a1, a3] w3 fun t17 w5 =>
      J1 w5)
   (J1 w3))
  fun J2 =>
  eqX EqK.num t12 (Value.int IntKind.i64 0) fun t18 =>
  brX t18
    (J2 (Value.bool true) w2)
  (eqX EqK.num a1 (Value.int IntKind.i64 0) fun t19 =>
  J2 t19 w2)))
theorem e115 (a0 a1 a2 a3 : Value) (w : World) (K : Cont) : fX Tryd.prog 115 an115 [a0, a1, a2, a3] w K = s115 a0 a1 a2 a3 w K := by kernel_rfl
theorem c115 (a0 a1 a2 a3 : Value) (w : World) (K : Cont) (h : s115 a0 a1 a2 a3 w K) : callX Tryd.prog 115 [a0, a1, a2, a3] w K := fX_call mixed (e115 a0 a1 a2 a3 w K) h

/-- (*berthing/disk.Disk).Append -/
def an57 : Ann := .o
def s57 (a0 a1 a2 : Value) (w : World) (K : Cont) : Prop :=
  callX Tryd.prog 115 [a0, Value.int IntKind.i64 0, a1, a2] w fun t1 w1 =>
  K t1 w1
theorem e57 (a0 a1 a2 : Value) (w : World) (K : Cont) : fX Tryd.prog 57 an57 [a0, a1, a2] w K = s57 a0 a1 a2 w K := by kernel_rfl
theorem c57 (a0 a1 a2 : Value) (w : World) (K : Cont) (h : s57 a0 a1 a2 w K) : callX Tryd.prog 57 [a0, a1, a2] w K := fX_call mixed (e57 a0 a1 a2 w K) h

/-- (*berthing/disk.Disk).Sync -/
def an112 : Ann := .o
def s112 (a0 a1 : Value) (w : World) (K : Cont) : Prop :=
  callX Tryd.prog 115 [a0, Value.int IntKind.i64 1, a1, Value.slice none 0 0] w fun t1 w1 =>
  K t1 w1
theorem e112 (a0 a1 : Value) (w : World) (K : Cont) : fX Tryd.prog 112 an112 [a0, a1] w K = s112 a0 a1 w K := by kernel_rfl
theorem c112 (a0 a1 : Value) (w : World) (K : Cont) (h : s112 a0 a1 w K) : callX Tryd.prog 112 [a0, a1] w K := fX_call mixed (e112 a0 a1 w K) h

/-- (*berthing/disk.Disk).Reset -/
def an68 : Ann := .o
def s68 (a0 a1 : Value) (w : World) (K : Cont) : Prop :=
  callX Tryd.prog 115 [a0, Value.int IntKind.i64 2, a1, Value.slice none 0 0] w fun t1 w1 =>
  K t1 w1
theorem e68 (a0 a1 : Value) (w : World) (K : Cont) : fX Tryd.prog 68 an68 [a0, a1] w K = s68 a0 a1 w K := by kernel_rfl
theorem c68 (a0 a1 : Value) (w : World) (K : Cont) (h : s68 a0 a1 w K) : callX Tryd.prog 68 [a0, a1] w K := fX_call mixed (e68 a0 a1 w K) h

/-- (*berthing/disk.Disk).Read -/
def an58 : Ann := .o
def s58 (a0 a1 : Value) (w : World) (K : Cont) : Prop :=
  callX Tryd.prog 116 [a0, a1] w fun t1 w1 =>
  neX EqK.num t1 (Value.int IntKind.i64 0) fun t2 =>
  brX t2
    (K (Value.tuple #[Value.slice none 0 0, t1]) w1)
  (nilX a0 fun t3 =>
  fieldAddrX 1 t3 fun t4 =>
  indexAX 4 2 t4 a1 fun t5 =>
  fieldAddrX 0 t5 fun t6 =>
  load1X t6 w1 fun t7 =>
  callX Tryd.prog 117 [t7] w1 fun t8 w2 =>
  K (Value.tuple #[t8, Value.int IntKind.i64 0]) w2)
theorem e58 (a0 a1 : Value) (w : World) (K : Cont) : fX Tryd.prog 58 an58 [a0, a1] w K = s58 a0 a1 w K := by kernel_rfl
theorem c58 (a0 a1 : Value) (w : World) (K : Cont) (h : s58 a0 a1 w K) : callX Tryd.prog 58 [a0, a1] w K := fX_call mixed (e58 a0 a1 w K) h

/-- berthing/disk.New -/
def an50 : Ann := .o
def s50 (w : World) (K : Cont) : Prop :=
  buildX [Value.bool false, Value.slice none 0 0, Value.int IntKind.i64 0, Value.slice none 0 0, Value.int IntKind.i64 0, Value.slice none 0 0, Value.int IntKind.i64 0, Value.slice none 0 0, Value.int IntKind.i64 0, Value.int IntKind.i64 0, Value.bool false] [(0, 1, Value.bool true), (9, 1, Value.int IntKind.i64 (-1))] fun t1 =>
  boxX 186 t1 w fun t2 w1 =>
  K t2 w1
theorem e50 (w : World) (K : Cont) : fX Tryd.prog 50 an50 [] w K = s50 w K := by kernel_rfl
theorem c50 (w : World) (K : Cont) (h : s50 w K) : callX Tryd.prog 50 [] w K := fX_call mixed (e50 w K) h

/-- (*berthing/disk.Disk).Arm -/
def an65 : Ann := .o
def s65 (a0 a1 : Value) (w : World) (K : Cont) : Prop :=
  callX Tryd.prog 124 [a0] w fun t1 w1 =>
  notX t1 fun t2 =>
  brX t2
    (maxX a1 (Value.int IntKind.i64 (-1)) fun t3 =>
     nilX a0 fun t4 =>
     fieldAddrX 9 t4 fun t5 =>
     store1X t5 t3 w1 fun w2 =>
     K (Value.tuple #[]) w2)
  (K (Value.tuple #[]) w1)
theorem e65 (a0 a1 : Value) (w : World) (K : Cont) : fX Tryd.prog 65 an65 [a0, a1] w K = s65 a0 a1 w K := by kernel_rfl
theorem c65 (a0 a1 : Value) (w : World) (K : Cont) (h : s65 a0 a1 w K) : callX Tryd.prog 65 [a0, a1] w K := fX_call mixed (e65 a0 a1 w K) h

/-- (*berthing/disk.Disk).Fall -/
def an66 : Ann := (.n none .nil .o (.n none .nil .o (.n none .nil (.n none .nil .o (.n none .nil (.n (some ([4, 5, 6, 9, 10, 11, 12, 13, 14, 15, 16, 17, 18, 19, 20, 21, 22, 23, 24, 25, 26, 27, 28, 29, 30, 31, 32, 33, 34, 35, 36, 37, 38, 39, 40, 41, 42, 43, 44, 45, 46, 47, 48], [9])) .nil (.n none .nil .o (.n none .nil .o (.n none .nil (.n none .nil (.n none .nil .o (.n none .nil .o (.n none .nil (.n none (.one 0 (.one 1 (.one 4 (.one 5 (.one 6 (.one 9 (.one 10 (.one 11 (.one 2 (.one 3 (.one 7 (.one 8 (.one 12 (.one 13 (.one 14 (.one 15 .nil)))))))))))))))) .o .o) (.n none .nil (.n none (.one 0 (.one 1 (.one 2 (.one 3 (.one 5 (.one 6 (.one 7 (.one 9 (.one 4 (.one 8 (.one 10 (.one 11 (.one 12 (.one 13 (.eff (.alt 14 (some [13, 11, 0, 1, 2, 3, 4, 5, 6, 7, 8, 9, 10, 12]) .nil .stop)))))))))))))))) .o .o) .o)))) .o) .o))) .o) .o)) .o)))
def s66 (a0 a1 : Value) (w : World) (K : Cont) : Prop :=
  boxX 103 a1 w fun t1 w1 =>
  callX Tryd.prog 124 [a0] w1 fun t2 w2 =>
  brX t2
    (K (Value.tuple #[]) w2)
  (∃ (I1 : Value → World → Prop), ∃ (m2 : Value → World → Nat), (I1 (Value.int IntKind.i64 0) w2 ∧
  ∀ (t3 : Value), ∀ (w3 : World), (I1 t3 w3 →
  ltX t3 (Value.int IntKind.i64 4) fun t4 =>
  brX t4
    (nilX a0 fun t5 =>
     fieldAddrX 1 t5 fun t6 =>
     indexAX 4 2 t6 t3 fun t7 =>
     ∀ (w4 : World), (Drew w3 w4 →
     ∃ (S3 : World → Prop), (S3 w4 ∧
     indexAX 4 1 t1 t3 fun t8 =>
     nilX t7 fun t9 =>
     fieldAddrX 0 t9 fun t10 =>
     nilX t7 fun t11 =>
     fieldAddrX 1 t11 fun t12 =>
     load1H S3 t8 fun t13 =>
     maxX t13 (Value.int IntKind.i64 0) fun t14 =>
     load1H S3 t10 fun t15 =>
     lenSX t15 fun t16 =>
     load1H S3 t12 fun t17 =>
     subX t16 t17 fun t18 =>
     minX t14 t18 fun t19 =>
     ∀ (w5 : World), (Drew w4 w5 →
     ∃ (S4 : World → Prop), (S4 w5 ∧
     nilX t7 fun t20 =>
     fieldAddrX 0 t20 fun t21 =>
     nilX t7 fun t22 =>
     fieldAddrX 1 t22 fun t23 =>
     load1H S4 t21 fun t24 =>
     load1H S4 t23 fun t25 =>
     addX t25 t19 fun t26 =>
     sliceX 1 t24 none (some t26) none fun t27 =>
     nilX t7 fun t28 =>
     fieldAddrX 0 t28 fun t29 =>
     store1X t29 t27 w5 fun w6 =>
     callX Tryd.prog 125 [t7, Value.slice none 0 0] w6 fun t30 w7 =>
     addX t3 (Value.int IntKind.i64 1) fun t31 =>
     (I1 t31 w7 ∧
     lessN (m2 t31 w7) (m2 t3 w3)))))))
  (nilX a0 fun t32 =>
  fieldAddrX 9 t32 fun t33 =>
  store1X t33 (Value.int IntKind.i64 (-1)) w3 fun w8 =>
  nilX a0 fun t34 =>
  fieldAddrX 10 t34 fun t35 =>
  store1X t35 (Value.bool false) w8 fun w9 =>
  K (Value.tuple #[]) w9))))
theorem e66 (a0 a1 : Value) (w : World) (K : Cont) : fX Tryd.prog 66 an66 [a0, a1] w K = s66 a0 a1 w K := by kernel_rfl
theorem c66 (a0 a1 : Value) (w : World) (K : Cont) (h : s66 a0 a1 w K) : callX Tryd.prog 66 [a0, a1] w K := fX_call mixed (e66 a0 a1 w K) h

/-- (*berthing/disk.Disk).Clone -/
def an67 : Ann := (.n none .nil .o (.n none .nil .o (.n none .nil .o (.n none .nil (.n none .nil .o (.n none .nil (.n (some ([4, 10, 11, 12, 13, 14, 15, 16, 17, 18, 19, 20, 21, 22, 23], [10])) .nil .o .o) .o)) .o))))
def s67 (a0 : Value) (w : World) (K : Cont) : Prop :=
  callX Tryd.prog 124 [a0] w fun t1 w1 =>
  brX t1
    (K (Value.pointer none) w1)
  (nilX a0 fun t2 =>
  loadNX 11 t2 w1 fun t3 =>
  newX 186 [Value.bool false, Value.slice none 0 0, Value.int IntKind.i64 0, Value.slice none 0 0, Value.int IntKind.i64 0, Value.slice none 0 0, Value.int IntKind.i64 0, Value.slice none 0 0, Value.int IntKind.i64 0, Value.int IntKind.i64 0, Value.bool false] w1 fun t4 w2 =>
  storeNX 11 t4 t3 w2 fun w3 =>
  ∃ (I1 : Value → World → Prop), ∃ (m2 : Value → World → Nat), (I1 (Value.int IntKind.i64 0) w3 ∧
  ∀ (t5 : Value), ∀ (w4 : World), (I1 t5 w4 →
  ltX t5 (Value.int IntKind.i64 4) fun t6 =>
  brX t6
    (fieldAddrX 1 t4 fun t7 =>
     indexAX 4 2 t7 t5 fun t8 =>
     fieldAddrX 0 t8 fun t9 =>
     load1X t9 w4 fun t10 =>
     callX Tryd.prog 117 [t10] w4 fun t11 w5 =>
     fieldAddrX 1 t4 fun t12 =>
     indexAX 4 2 t12 t5 fun t13 =>
     fieldAddrX 0 t13 fun t14 =>
     store1X t14 t11 w5 fun w6 =>
     addX t5 (Value.int IntKind.i64 1) fun t15 =>
     (I1 t15 w6 ∧
     lessN (m2 t15 w6) (m2 t5 w4)))
  (K t4 w4))))
theorem e67 (a0 : Value) (w : World) (K : Cont) : fX Tryd.prog 67 an67 [a0] w K = s67 a0 w K := by kernel_rfl
theorem c67 (a0 : Value) (w : World) (K : Cont) (h : s67 a0 w K) : callX Tryd.prog 67 [a0] w K := fX_call mixed (e67 a0 w K) h

end Go.Proofs.YtgnmelnohclpgaaDoor
