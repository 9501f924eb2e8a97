/- Meanings of functions: sum, words -/
import Derived.Test.YtgnmelnohclpgaaDoorSxS
set_option linter.unusedVariables false
namespace Go.Proofs.YtgnmelnohclpgaaDoor
open Go

/-- berthing/sum.Begin -/
def an160 : Ann := .o
def s160 (w : World) (K : Cont) : Prop :=
  newX 227 [Value.int IntKind.u32 0, Value.int IntKind.u32 0] w fun t1 w1 =>
  buildX [Value.int IntKind.u32 0, Value.int IntKind.u32 0] [(0, 1, Value.int IntKind.u32 1)] fun t2 =>
  storeNX 2 t1 t2 w1 fun w2 =>
  loadNX 2 t1 w2 fun t3 =>
  K t3 w2
theorem e160 (w : World) (K : Cont) : fX Tryd.prog 160 an160 [] w K = s160 w K := by kernel_rfl
theorem c160 (w : World) (K : Cont) (h : s160 w K) : callX Tryd.prog 160 [] w K := fX_call mixed (e160 w K) h

/-- berthing/sum.add -/
def an182 : Ann := .o
def s182 (a0 a1 : Value) (w : World) (K : Cont) : Prop :=
  convIX IntKind.u64 a0 fun t1 =>
  convIX IntKind.u64 a1 fun t2 =>
  addX t1 t2 fun t3 =>
  remX t3 (Value.int IntKind.u64 65521) fun t4 =>
  convIX IntKind.u32 t4 fun t5 =>
  K t5 w
theorem e182 (a0 a1 : Value) (w : World) (K : Cont) : fX Tryd.prog 182 an182 [a0, a1] w K = s182 a0 a1 w K := by kernel_rfl
theorem c182 (a0 a1 : Value) (w : World) (K : Cont) (h : s182 a0 a1 w K) : callX Tryd.prog 182 [a0, a1] w K := fX_call mixed (e182 a0 a1 w K) h

/-- (berthing/sum.Running).Take$1 -/
def an181 : Ann := .o
def s181 (a0 a1 : Value) (w : World) (K : Cont) : Prop :=
  fieldAddrX 0 a1 fun t1 =>
  load1X t1 w fun t2 =>
  convIX IntKind.u32 a0 fun t3 =>
  callX Tryd.prog 182 [t2, t3] w fun t4 w1 =>
  fieldAddrX 0 a1 fun t5 =>
  store1X t5 t4 w1 fun w2 =>
  fieldAddrX 1 a1 fun t6 =>
  load1X t6 w2 fun t7 =>
  fieldAddrX 0 a1 fun t8 =>
  load1X t8 w2 fun t9 =>
  callX Tryd.prog 182 [t7, t9] w2 fun t10 w3 =>
  fieldAddrX 1 a1 fun t11 =>
  store1X t11 t10 w3 fun w4 =>
  K (Value.tuple #[]) w4
theorem e181 (a0 a1 : Value) (w : World) (K : Cont) : fX Tryd.prog 181 an181 [a0, a1] w K = s181 a0 a1 w K := by kernel_rfl
theorem c181 (a0 a1 : Value) (w : World) (K : Cont) (h : s181 a0 a1 w K) : callX Tryd.prog 181 [a0, a1] w K := fX_call mixed (e181 a0 a1 w K) h

/-- berthing/sum.each -/
def an180 : Ann := (.n none .nil .o (.n none .nil (.n (some ([5, 8, 9, 10, 11, 12, 13, 14, 15], [8])) .nil .o .o) .o))
def s180 (a0 a1 : Value) (w : World) (K : Cont) : Prop :=
  lenSX a0 fun t1 =>
  ∃ (I1 : Value → World → Prop), ∃ (m2 : Value → World → Nat), (I1 (Value.int IntKind.i64 0) w ∧
  ∀ (t2 : Value), ∀ (w1 : World), (I1 t2 w1 →
  ltX t2 t1 fun t3 =>
  brX t3
    (indexSX 1 a0 t2 fun t4 =>
     load1X t4 w1 fun t5 =>
     fvX Tryd.prog a1 [t5] w1 fun t6 w2 =>
     addX t2 (Value.int IntKind.i64 1) fun t7 =>
     (I1 t7 w2 ∧
     lessN (m2 t7 w2) (m2 t2 w1)))
  (K (Value.tuple #[]) w1)))
theorem e180 (a0 a1 : Value) (w : World) (K : Cont) : fX Tryd.prog 180 an180 [a0, a1] w K = s180 a0 a1 w K := by kernel_rfl
theorem c180 (a0 a1 : Value) (w : World) (K : Cont) (h : s180 a0 a1 w K) : callX Tryd.prog 180 [a0, a1] w K := fX_call mixed (e180 a0 a1 w K) h

/-- (berthing/sum.Running).Take -/
def an161 : Ann := .o
def s161 (a0 a1 : Value) (w : World) (K : Cont) : Prop :=
  boxX 227 a0 w fun t1 w1 =>
  newX 227 [Value.int IntKind.u32 0, Value.int IntKind.u32 0] w1 fun t2 w2 =>
  callX Tryd.prog 180 [a1, Value.func (Fn.func 181) #[] #[t1]] w2 fun t3 w3 =>
  loadNX 2 t1 w3 fun t4 =>
  storeNX 2 t2 t4 w3 fun w4 =>
  loadNX 2 t2 w4 fun t5 =>
  K t5 w4
theorem e161 (a0 a1 : Value) (w : World) (K : Cont) : fX Tryd.prog 161 an161 [a0, a1] w K = s161 a0 a1 w K := by kernel_rfl
theorem c161 (a0 a1 : Value) (w : World) (K : Cont) (h : s161 a0 a1 w K) : callX Tryd.prog 161 [a0, a1] w K := fX_call mixed (e161 a0 a1 w K) h

/-- (berthing/sum.Running).Value -/
def an162 : Ann := .o
def s162 (a0 : Value) (w : World) (K : Cont) : Prop :=
  boxX 227 a0 w fun t1 w1 =>
  fieldAddrX 1 t1 fun t2 =>
  load1X t2 w1 fun t3 =>
  shlX t3 (Value.int IntKind.u64 16) fun t4 =>
  fieldAddrX 0 t1 fun t5 =>
  load1X t5 w1 fun t6 =>
  addX t4 t6 fun t7 =>
  K t7 w1
theorem e162 (a0 : Value) (w : World) (K : Cont) : fX Tryd.prog 162 an162 [a0] w K = s162 a0 w K := by kernel_rfl
theorem c162 (a0 : Value) (w : World) (K : Cont) (h : s162 a0 w K) : callX Tryd.prog 162 [a0] w K := fX_call mixed (e162 a0 w K) h

/-- berthing/sum.Sum -/
def an100 : Ann := (.n none .nil .o (.n none .nil .o (.n none .nil (.n none .nil .o (.n none .nil (.n (some ([5, 9, 10, 11, 12, 13, 14, 15, 16], [9])) .nil .o .o) .o)) .o)))
def s100 (a0 : Value) (w : World) (K : Cont) : Prop :=
  callX Tryd.prog 160 [] w fun t1 w1 =>
  newX 227 [Value.int IntKind.u32 0, Value.int IntKind.u32 0] w1 fun t2 w2 =>
  storeNX 2 t2 t1 w2 fun w3 =>
  lenSX a0 fun t3 =>
  ∃ (I1 : Value → World → Prop), ∃ (m2 : Value → World → Nat), (I1 (Value.int IntKind.i64 0) w3 ∧
  ∀ (t4 : Value), ∀ (w4 : World), (I1 t4 w4 →
  ltX t4 t3 fun t5 =>
  brX t5
    (indexSX 1 a0 t4 fun t6 =>
     load1X t6 w4 fun t7 =>
     loadNX 2 t2 w4 fun t8 =>
     callX Tryd.prog 161 [t8, t7] w4 fun t9 w5 =>
     storeNX 2 t2 t9 w5 fun w6 =>
     addX t4 (Value.int IntKind.i64 1) fun t10 =>
     (I1 t10 w6 ∧
     lessN (m2 t10 w6) (m2 t4 w4)))
  (loadNX 2 t2 w4 fun t11 =>
  callX Tryd.prog 162 [t11] w4 fun t12 w7 =>
  K t12 w7)))
theorem e100 (a0 : Value) (w : World) (K : Cont) : fX Tryd.prog 100 an100 [a0] w K = s100 a0 w K := by kernel_rfl
theorem c100 (a0 : Value) (w : World) (K : Cont) (h : s100 a0 w K) : callX Tryd.prog 100 [a0] w K := fX_call mixed (e100 a0 w K) h

/-- berthing/berthingref03.Sum -/
def an102 : Ann := (.n none .nil .o (.n none .nil .o (.n none .nil (.n none .nil .o (.n none .nil (.n (some ([3, 4, 5, 6, 7, 8, 9, 10, 11, 12, 13, 14, 15, 16, 17, 18, 19, 20, 21, 22], [3, 4, 5])) .nil .o .o) .o)) .o)))
def s102 (a0 : Value) (w : World) (K : Cont) : Prop :=
  ∃ (I1 : Value → Value → Value → World → Prop), ∃ (m2 : Value → Value → Value → World → Nat), (I1 (Value.int IntKind.i64 1) (Value.int IntKind.i64 0) (Value.int IntKind.i64 0) w ∧
  ∀ (t1 : Value), ∀ (t2 : Value), ∀ (t3 : Value), ∀ (w1 : World), (I1 t1 t2 t3 w1 →
  lenStrX a0 fun t4 =>
  ltX t3 t4 fun t5 =>
  brX t5
    (indexStrX a0 t3 fun t6 =>
     convIX IntKind.i64 t6 fun t7 =>
     addX t1 t7 fun t8 =>
     remX t8 (Value.int IntKind.i64 65521) fun t9 =>
     addX t2 t9 fun t10 =>
     remX t10 (Value.int IntKind.i64 65521) fun t11 =>
     addX t3 (Value.int IntKind.i64 1) fun t12 =>
     (I1 t9 t11 t12 w1 ∧
     lessN (m2 t9 t11 t12 w1) (m2 t1 t2 t3 w1)))
  (convIX IntKind.u32 t2 fun t13 =>
  mulX t13 (Value.int IntKind.u32 65536) fun t14 =>
  convIX IntKind.u32 t1 fun t15 =>
  addX t14 t15 fun t16 =>
  K t16 w1)))
theorem e102 (a0 : Value) (w : World) (K : Cont) : fX Tryd.prog 102 an102 [a0] w K = s102 a0 w K := by kernel_rfl
theorem c102 (a0 : Value) (w : World) (K : Cont) (h : s102 a0 w K) : callX Tryd.prog 102 [a0] w K := fX_call mixed (e102 a0 w K) h

/-- berthing/journal.word -/
def an99 : Ann := (.n none .nil .o (.n none .nil (.n none .nil .o (.n none .nil (.n (some ([0, 1, 5, 6, 7, 8, 9, 10, 11, 12, 13, 14], [0, 1, 5])) .nil .o .o) .o)) .o))
def s99 (a0 a1 : Value) (w : World) (K : Cont) : Prop :=
  ∃ (I1 : Value → Value → Value → World → Prop), ∃ (m2 : Value → Value → Value → World → Nat), (I1 a0 a1 (Value.int IntKind.i64 0) w ∧
  ∀ (t1 : Value), ∀ (t2 : Value), ∀ (t3 : Value), ∀ (w1 : World), (I1 t1 t2 t3 w1 →
  ltX t3 (Value.int IntKind.i64 4) fun t4 =>
  brX t4
    (convIX IntKind.u8 t2 fun t5 =>
     buildSX 5 1 [t5] w1 fun t6 w2 =>
     appendX 5 1 1 [Value.int IntKind.u8 0] t1 t6 w2 fun t7 w3 =>
     shrX t2 (Value.int IntKind.u64 8) fun t8 =>
     addX t3 (Value.int IntKind.i64 1) fun t9 =>
     (I1 t7 t8 t9 w3 ∧
     lessN (m2 t7 t8 t9 w3) (m2 t1 t2 t3 w1)))
  (K t1 w1)))
theorem e99 (a0 a1 : Value) (w : World) (K : Cont) : fX Tryd.prog 99 an99 [a0, a1] w K = s99 a0 a1 w K := by kernel_rfl
theorem c99 (a0 a1 : Value) (w : World) (K : Cont) (h : s99 a0 a1 w K) : callX Tryd.prog 99 [a0, a1] w K := fX_call mixed (e99 a0 a1 w K) h

/-- berthing/berthingref05.low -/
def an101 : Ann := .o
def s101 (a0 : Value) (w : World) (K : Cont) : Prop :=
  convIX IntKind.u8 a0 fun t1 =>
  shrX a0 (Value.int IntKind.u64 8) fun t2 =>
  convIX IntKind.u8 t2 fun t3 =>
  shrX a0 (Value.int IntKind.u64 16) fun t4 =>
  convIX IntKind.u8 t4 fun t5 =>
  shrX a0 (Value.int IntKind.u64 24) fun t6 =>
  convIX IntKind.u8 t6 fun t7 =>
  buildSX 5 1 [t1, t3, t5, t7] w fun t8 w1 =>
  strX t8 w1 fun t9 =>
  K t9 w1
theorem e101 (a0 : Value) (w : World) (K : Cont) : fX Tryd.prog 101 an101 [a0] w K = s101 a0 w K := by kernel_rfl
theorem c101 (a0 : Value) (w : World) (K : Cont) (h : s101 a0 w K) : callX Tryd.prog 101 [a0] w K := fX_call mixed (e101 a0 w K) h

/-- berthing/journal.number -/
def an183 : Ann := (.n none .nil .o (.n none .nil .o (.n none .nil (.n none .nil .o (.n none .nil (.n (some ([3, 4, 5, 9, 10, 11, 12, 13, 14, 15, 16, 17, 18, 19, 20, 21], [3, 9])) .nil .o .o) .o)) .o)))
def s183 (a0 : Value) (w : World) (K : Cont) : Prop :=
  sliceX 1 a0 none (some (Value.int IntKind.i64 4)) none fun t1 =>
  lenSX t1 fun t2 =>
  ∃ (I1 : Value → Value → World → Prop), ∃ (m2 : Value → Value → World → Nat), (I1 (Value.int IntKind.u32 0) (Value.int IntKind.i64 0) w ∧
  ∀ (t3 : Value), ∀ (t4 : Value), ∀ (w1 : World), (I1 t3 t4 w1 →
  ltX t4 t2 fun t5 =>
  brX t5
    (indexSX 1 t1 t4 fun t6 =>
     load1X t6 w1 fun t7 =>
     convIX IntKind.u32 t7 fun t8 =>
     mulX (Value.int IntKind.i64 8) t4 fun t9 =>
     shlX t8 t9 fun t10 =>
     orX t3 t10 fun t11 =>
     addX t4 (Value.int IntKind.i64 1) fun t12 =>
     (I1 t11 t12 w1 ∧
     lessN (m2 t11 t12 w1) (m2 t3 t4 w1)))
  (K t3 w1)))
theorem e183 (a0 : Value) (w : World) (K : Cont) : fX Tryd.prog 183 an183 [a0] w K = s183 a0 w K := by kernel_rfl
theorem c183 (a0 : Value) (w : World) (K : Cont) (h : s183 a0 w K) : callX Tryd.prog 183 [a0] w K := fX_call mixed (e183 a0 w K) h

/-- berthing/berthingref05.number -/
def an104 : Ann := (.n none .nil .o (.n none .nil (.n none (.one 0 (.one 1 (.one 2 (.one 3 (.one 4 (.one 5 (.one 6 (.one 7 (.one 8 (.one 9 (.one 10 (.one 11 (.one 12 (.one 13 (.one 14 (.one 15 (.one 16 (.one 17 (.one 18 .nil))))))))))))))))))) .o .o) .o))
def s104 (a0 : Value) (w : World) (K : Cont) : Prop :=
  ∀ (w1 : World), (Drew w w1 →
  ∃ (S1 : World → Prop), (S1 w1 ∧
  indexStrX a0 (Value.int IntKind.i64 0) fun t1 =>
  convIX IntKind.u32 t1 fun t2 =>
  indexStrX a0 (Value.int IntKind.i64 1) fun t3 =>
  convIX IntKind.u32 t3 fun t4 =>
  shlX t4 (Value.int IntKind.u64 8) fun t5 =>
  addX t2 t5 fun t6 =>
  indexStrX a0 (Value.int IntKind.i64 2) fun t7 =>
  convIX IntKind.u32 t7 fun t8 =>
  shlX t8 (Value.int IntKind.u64 16) fun t9 =>
  addX t6 t9 fun t10 =>
  indexStrX a0 (Value.int IntKind.i64 3) fun t11 =>
  convIX IntKind.u32 t11 fun t12 =>
  shlX t12 (Value.int IntKind.u64 24) fun t13 =>
  addX t10 t13 fun t14 =>
  K t14 w1))
theorem e104 (a0 : Value) (w : World) (K : Cont) : fX Tryd.prog 104 an104 [a0] w K = s104 a0 w K := by kernel_rfl
theorem c104 (a0 : Value) (w : World) (K : Cont) (h : s104 a0 w K) : callX Tryd.prog 104 [a0] w K := fX_call mixed (e104 a0 w K) h

end Go.Proofs.YtgnmelnohclpgaaDoor
