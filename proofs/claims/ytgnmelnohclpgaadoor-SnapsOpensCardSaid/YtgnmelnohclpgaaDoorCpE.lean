/- The disk and the journal's log: what each function answers. -/
import Derived.Test.YtgnmelnohclpgaaDoorCoF
import Derived.Test.YtgnmelnohclpgaaDoorGnG
import Derived.Test.YtgnmelnohclpgaaDoorCoX
import Derived.Test.YtgnmelnohclpgaaDoorGnH
set_option linter.unusedVariables false
set_option linter.unusedSimpArgs false
namespace Go.Proofs.YtgnmelnohclpgaaDoor
open Go Go.RowKit

/-! ### The plain law -/
def upd {α : Type} (f : Nat → α) (i : Nat) (x : α) : Nat → α := fun j => if j = i then x else f j
theorem upd_same {α : Type} (f : Nat → α) (i : Nat) (x : α) : upd f i x i = x := by simp [upd]
theorem upd_ne {α : Type} (f : Nat → α) {i j : Nat} (x : α) (h : j ≠ i) : upd f i x j = f j := by simp [upd, h]
structure Dk where
  l : Nat → List UInt8
  s : Nat → Nat
  left : Int
  down : Bool
def Dk.ok (k : Dk) : Prop := -1 ≤ k.left ∧ k.left < 2 ^ 63 ∧ ∀ i, i < 4 → (k.l i).length ≤ 1048576 ∧ k.s i ≤ (k.l i).length
def Dk.lay (k : Dk) (i : Nat) (b : List UInt8) : Dk := { k with l := upd k.l i (k.l i ++ b) }
def Dk.keep (k : Dk) (i : Nat) : Dk := { k with s := upd k.s i (k.l i).length }
def Dk.clear (k : Dk) (i : Nat) : Dk := { k with l := upd k.l i [], s := upd k.s i 0 }
def Dk.doF (k : Dk) (op : Int) (i : Nat) (b : List UInt8) : Dk := if op = 1 then k.keep i else if op = 2 then k.clear i else k.lay i b
def Dk.may (k : Dk) (i : Int) : Int := if k.down = true then 17 else if i < 0 ∨ 4 ≤ i then 13 else 0
def Dk.count (k : Dk) : Int × Dk := if k.left = 0 then (17, { k with left := -1, down := true }) else if 0 < k.left then (0, { k with left := k.left - 1 }) else (0, k)
def Dk.call (k : Dk) (op i : Int) (b : List UInt8) : Int × Dk :=
  if k.may i ≠ 0 then (k.may i, k)
  else if 1048576 - (k.l i.toNat).length < b.length then (15, k)
  else if k.count.1 = 0 ∨ op = 0 then (k.count.1, k.count.2.doF op i.toNat b)
  else k.count
def dk0 : Dk := ⟨fun _ => [], fun _ => 0, -1, false⟩
theorem dk0_ok : dk0.ok := by refine ⟨by decide, by decide, fun i hi => by simp [dk0]⟩

/-! ### The disk in memory -/
def dcells (v : Nat → Value) (k : Dk) : List Value :=
  [.bool true, v 0, .int .i64 (k.s 0 : Nat), v 1, .int .i64 (k.s 1 : Nat), v 2, .int .i64 (k.s 2 : Nat), v 3, .int .i64 (k.s 3 : Nat), .int .i64 k.left, .bool k.down]
def dparts (v : Nat → Value) (k : Dk) : List Item := [byt (v 0) (k.l 0), byt (v 1) (k.l 1), byt (v 2) (k.l 2), byt (v 3) (k.l 3)]
def dsk (d : Nat) (k : Dk) : Item := pack (fun v : Nat → Value => k.ok) (fun v => blk d (.cells (dcells v k).toArray 186 (0, 0)) :: dparts v k)
def dk (d : Nat) : Value := .pointer (some ⟨d, 0, none⟩)
def drest (i : Nat) : List Nat := match i with
  | 0 => [1, 2, 3]
  | 1 => [0, 2, 3]
  | 2 => [0, 1, 3]
  | _ => [0, 1, 2]
def dpartsX (v : Nat → Value) (k : Dk) (i : Nat) : List Item := (drest i).map fun j => byt (v j) (k.l j)
theorem four {i : Nat} (h : i < 4) : i = 0 ∨ i = 1 ∨ i = 2 ∨ i = 3 := by omega
theorem dparts_perm (v : Nat → Value) (k : Dk) {i : Nat} (h : i < 4) : (dparts v k).Perm (byt (v i) (k.l i) :: dpartsX v k i) := by
  rcases four h with rfl | rfl | rfl | rfl
  · exact .refl _
  · exact .swap _ _ _
  · exact ((List.Perm.swap _ _ _).cons _).trans (.swap _ _ _)
  · exact ((((List.Perm.swap _ _ _).cons _).trans (.swap _ _ _)).cons _).trans (.swap _ _ _)
theorem dpartsX_upd {v : Nat → Value} {k k' : Dk} {i : Nat} {x : Value} {y : List UInt8} (h : i < 4) (hk : k'.l = upd k.l i y) : dpartsX (upd v i x) k' i = dpartsX v k i := by
  unfold dpartsX
  rw [hk]
  rcases four h with rfl | rfl | rfl | rfl <;> rfl
theorem dcells_l (v : Nat → Value) (k : Dk) {i : Nat} (h : i < 4) : (dcells v k)[1 + i * 2]? = some (v i) := by rcases four h with rfl | rfl | rfl | rfl <;> rfl
theorem dcells_s (v : Nat → Value) (k : Dk) {i : Nat} (h : i < 4) : (dcells v k)[1 + i * 2 + 1]? = some (.int .i64 (k.s i : Nat)) := by rcases four h with rfl | rfl | rfl | rfl <;> rfl
theorem dcells_setl (v : Nat → Value) (k : Dk) {i : Nat} (x : Value) (h : i < 4) : (dcells v k).set (1 + i * 2) x = dcells (upd v i x) k := by rcases four h with rfl | rfl | rfl | rfl <;> rfl
theorem dcells_sets (v : Nat → Value) (k : Dk) {i : Nat} (n : Nat) (h : i < 4) : (dcells v k).set (1 + i * 2 + 1) (.int .i64 (n : Nat)) = dcells v { k with s := upd k.s i n } := by rcases four h with rfl | rfl | rfl | rfl <;> rfl
theorem upd_self {α : Type} (f : Nat → α) (i : Nat) : upd f i (f i) = f := by funext j; unfold upd; split <;> simp_all
theorem dcells_len (v : Nat → Value) (k : Dk) : (dcells v k).length = 11 := rfl

section
variable {M : List Nat} {w0 w : World} {L R : List Item} {v u : Value} {l m : List UInt8} {K : Cont} {b d : Nat} {k : Dk}

theorem St.dskOpen [hp : Pk (dsk d) k L R] (S : St M w0 w L) : ∃ v, k.ok ∧ St M w0 w (blk d (.cells (dcells v k).toArray 186 (0, 0)) :: (dparts v k ++ R)) := by
  obtain ⟨v, hk, S⟩ := (S.perm hp.p).unpack
  exact ⟨v, hk, S⟩
theorem St.dskShut {v : Nat → Value} (S : St M w0 w (blk d (.cells (dcells v k).toArray 186 (0, 0)) :: (dparts v k ++ R))) (hk : k.ok) : St M w0 w (dsk d k :: R) := St.pack v S hk
theorem St.fileOpen {v : Nat → Value} {I : Item} {i : Nat} (S : St M w0 w (I :: (dparts v k ++ R))) (h : i < 4) : St M w0 w (I :: byt (v i) (k.l i) :: (dpartsX v k i ++ R)) :=
  S.perm (((dparts_perm v k h).append_right R).cons I)
theorem St.fileShut {v : Nat → Value} {x : Value} {y : List UInt8} {k' : Dk} {I : Item} {i : Nat} (S : St M w0 w (I :: byt x y :: (dpartsX v k i ++ R))) (h : i < 4) (hk : k'.l = upd k.l i y) : St M w0 w (I :: (dparts (upd v i x) k' ++ R)) := by
  refine S.perm (List.Perm.cons I ?_)
  have := ((dparts_perm (upd v i x) k' h).append_right R).symm
  rw [dpartsX_upd h hk, hk, upd_same, upd_same] at this
  exact this
theorem Has.byt (h : Has L w) (hm : InI (byt v) l L) : RdB w v l := by
  obtain ⟨fp, o, hp⟩ := h.get hm.mem
  exact hp.2.rd

/-- slices.Clone of bytes of one's own -/
theorem f117o [hm : InI (byt v) l L] (S : St M w0 w L) (hl : l.length ≤ 2 ^ 30) (hk : ∀ w' v', St M w0 w' (byt v' l :: L) → K v' w') : callX Tryd.prog 117 [v] w K := by
  refine c117 _ _ _ ?_
  unfold s117
  have go : buildSX 5 1 [] w fun t2 w1 => appendX 5 1 1 [Value.int IntKind.u8 0] t2 v w1 fun t3 w2 => K t3 w2 := by
    refine S.bytes (l := []) rfl fun w1 v1 S1 => ?_
    exact S1.append (m := l) (S1.hs.tail.byt hm) (by simp; omega) fun w2 v2 S2 => by simpa using hk _ _ S2
  rcases S.hs.byt hm with ⟨rfl, rfl⟩ | ⟨p, c, rfl, hc, h⟩
  · (repeat refine Stp.h ?_)
    exact hk _ _ (byt_nil S)
  · (repeat refine Stp.h ?_)
    exact go

theorem f124 {v : Nat → Value} [hi : InL d (.cells (dcells v k).toArray 186 (0, 0)) L] (S : St M w0 w L) (hk : K (.bool false) w) : callX Tryd.prog 124 [.pointer (some ⟨d, 0, none⟩)] w K := by
  refine c124 _ _ _ ?_
  unfold s124
  unfold dcells at hi
  (repeat refine Stp.h ?_)
  exact hk
theorem f124n (hk : K (.bool true) w) : callX Tryd.prog 124 [.pointer none] w K := by
  refine c124 _ _ _ ?_
  unfold s124
  (repeat refine Stp.h ?_)
  exact hk
theorem f116 {v : Nat → Value} {i : Int} [hi : InL d (.cells (dcells v k).toArray 186 (0, 0)) L] (S : St M w0 w L) (hk : K (.int .i64 (k.may i)) w) : callX Tryd.prog 116 [.pointer (some ⟨d, 0, none⟩), .int .i64 i] w K := by
  refine c116 _ _ _ _ ?_
  unfold s116
  refine f124 (k := k) (v := v) S ?_
  unfold dcells at hi
  unfold Dk.may at hk
  (repeat refine Stp.h ?_)
  cases hd : k.down
  · rw [hd] at hk
    simp only [Bool.false_eq_true, if_false] at hk
    (repeat refine Stp.h ?_)
    refine joinX_of (fun J => J (.bool (decide (i < 0 ∨ 4 ≤ i))) w) ?_ (fun J hJ => ?_)
    · refine brX_d (fun hc => ?_) (fun hc => ?_)
      · rw [if_pos hc] at hk; exact hk
      · rw [if_neg hc] at hk; exact hk
    · (repeat refine Stp.h ?_)
      refine brX_d (fun h1 => ?_) (fun h1 => ?_)
      · rw [decide_eq_true (.inl h1)] at hJ; exact hJ
      · (repeat refine Stp.h ?_)
        have e : decide (i < 0 ∨ 4 ≤ i) = decide (4 ≤ i) := by congr 1; apply propext; omega
        rw [e] at hJ
        exact hJ
  · rw [hd] at hk
    simp only [if_true] at hk
    (repeat refine Stp.h ?_)
    exact hk
theorem f116n {i : Value} (hk : K (.int .i64 1) w) : callX Tryd.prog 116 [.pointer none, i] w K := by
  refine c116 _ _ _ _ ?_
  unfold s116
  refine f124n ?_
  (repeat refine Stp.h ?_)
  exact hk

theorem f167 {v : Nat → Value} (ho : k.ok) (S : St M w0 w (blk d (.cells (dcells v k).toArray 186 (0, 0)) :: L)) (hk : ∀ w', St M w0 w' (blk d (.cells (dcells v k.count.2).toArray 186 (0, 0)) :: L) → K (.int .i64 k.count.1) w') : callX Tryd.prog 167 [.pointer (some ⟨d, 0, none⟩)] w K := by
  refine c167 _ _ _ ?_
  unfold s167
  have h0 := ho.1
  have h1 := ho.2.1
  unfold Dk.count at hk
  unfold dcells at S hk
  refine joinX_i ?_
  (repeat refine Stp.h ?_)
  refine brX_d (fun hz => ?_) (fun hz => ?_)
  · rw [if_pos hz] at hk
    (repeat refine Stp.h ?_)
    (refine StpW.h ?_; clear S; intro w1 S)
    (repeat refine Stp.h ?_)
    (refine StpW.h ?_; clear S; intro w2 S)
    exact hk _ S
  · rw [if_neg hz] at hk
    (repeat refine Stp.h ?_)
    refine brX_d (fun hp => ?_) (fun hp => ?_)
    · rw [if_pos hp] at hk
      (repeat refine Stp.h ?_)
      rw [wi64 (n := k.left - 1) (by omega)]
      (repeat refine Stp.h ?_)
      (refine StpW.h ?_; clear S; intro w1 S)
      exact hk _ S
    · rw [if_neg hp] at hk
      exact hk _ S

theorem ldf {v : Nat → Value} {i o : Nat} {K : Value → Prop} (hi : i < 4) (ho : o = 1 + i * 2) (S : St M w0 w (blk d (.cells (dcells v k).toArray 186 (0, 0)) :: L)) (hk : K (v i)) : load1X (.pointer (some ⟨d, o, none⟩)) w K := by
  subst ho
  exact ldO (S.get List.mem_cons_self) (dcells_l v k hi) hk
theorem lds {v : Nat → Value} {i o : Nat} {K : Value → Prop} (hi : i < 4) (ho : o = 1 + i * 2 + 1) (S : St M w0 w (blk d (.cells (dcells v k).toArray 186 (0, 0)) :: L)) (hk : K (.int .i64 (k.s i : Nat))) : load1X (.pointer (some ⟨d, o, none⟩)) w K := by
  subst ho
  exact ldO (S.get List.mem_cons_self) (dcells_s v k hi) hk
theorem stf {v : Nat → Value} {i o : Nat} {x : Value} {K : World → Prop} (hi : i < 4) (ho : o = 1 + i * 2) (hx : One x) (S : St M w0 w (blk d (.cells (dcells v k).toArray 186 (0, 0)) :: L)) (hk : ∀ w', St M w0 w' (blk d (.cells (dcells (upd v i x) k).toArray 186 (0, 0)) :: L) → K w') : store1X (.pointer (some ⟨d, o, none⟩)) x w K := by
  subst ho
  refine S.st1 hx.one (by rw [dcells_len]; omega) fun w2 S2 => ?_
  rw [dcells_setl v k x hi] at S2
  exact hk _ S2
theorem sts {v : Nat → Value} {i o n : Nat} {K : World → Prop} (hi : i < 4) (ho : o = 1 + i * 2 + 1) (S : St M w0 w (blk d (.cells (dcells v k).toArray 186 (0, 0)) :: L)) (hk : ∀ w', St M w0 w' (blk d (.cells (dcells v { k with s := upd k.s i n }).toArray 186 (0, 0)) :: L) → K w') : store1X (.pointer (some ⟨d, o, none⟩)) (.int .i64 (n : Nat)) w K := by
  subst ho
  refine S.st1 rfl (by rw [dcells_len]; omega) fun w2 S2 => ?_
  rw [dcells_sets v k n hi] at S2
  exact hk _ S2

theorem f184 {v : Nat → Value} {i : Nat} [hm : InI (vw u) m L] (hi : i < 4) (hl : (k.l i).length + m.length ≤ 2 ^ 40) (S : St M w0 w (blk d (.cells (dcells v k).toArray 186 (0, 0)) :: byt (v i) (k.l i) :: L)) (hk : ∀ w' x, St M w0 w' (blk d (.cells (dcells (upd v i x) k).toArray 186 (0, 0)) :: byt x (k.l i ++ m) :: L) → K (.tuple #[]) w') : callX Tryd.prog 184 [.pointer (some ⟨d, 1 + i * 2, none⟩), u] w K := by
  refine c184 _ _ _ _ ?_
  unfold s184
  (repeat refine Stp.h ?_)
  refine ldf hi rfl S ?_
  refine St.append (v := v i) (l := k.l i) S (m := m) (S.hs.vw (v := u) inferInstance) hl fun w1 x S1 => ?_
  clear S
  have S := S1.perm (.swap _ _ _)
  clear S1
  have hx := (S.hs.byt (v := x) (l := k.l i ++ m) inferInstance).one
  (repeat refine Stp.h ?_)
  exact stf hi rfl hx S fun w2 S2 => hk _ _ S2

theorem f125 {v : Nat → Value} {i : Nat} {a : Value} {o : Nat} (ho : o = 1 + i * 2) (hi : i < 4) [hm : InI (byt (v i)) l L] (S : St M w0 w (blk d (.cells (dcells v k).toArray 186 (0, 0)) :: L)) (hk : ∀ w', St M w0 w' (blk d (.cells (dcells v { k with s := upd k.s i l.length }).toArray 186 (0, 0)) :: L) → K (.tuple #[]) w') : callX Tryd.prog 125 [.pointer (some ⟨d, o, none⟩), a] w K := by
  subst ho
  refine c125 _ _ _ _ ?_
  unfold s125
  (repeat refine Stp.h ?_)
  refine ldf hi rfl S ?_
  refine (S.hs.byt (v := v i) (l := l) inferInstance).len ?_
  (repeat refine Stp.h ?_)
  exact sts hi rfl S fun w2 S2 => hk _ S2

theorem f185 {v : Nat → Value} {i : Nat} {a : Value} (hi : i < 4) (S : St M w0 w (blk d (.cells (dcells v k).toArray 186 (0, 0)) :: byt (v i) l :: L)) (hk : ∀ w' x, St M w0 w' (blk d (.cells (dcells (upd v i x) { k with s := upd k.s i 0 }).toArray 186 (0, 0)) :: byt x [] :: L) → K (.tuple #[]) w') : callX Tryd.prog 185 [.pointer (some ⟨d, 1 + i * 2, none⟩), a] w K := by
  refine c185 _ _ _ _ ?_
  unfold s185
  (repeat refine Stp.h ?_)
  refine S.stN (c := dcells v k) rfl (by simp [Value.oneCell']) (by rw [dcells_len]; omega) fun w2 S2 => ?_
  have e : over (dcells v k) (1 + i * 2) [.slice none 0 0, .int .i64 0] = dcells (upd v i (.slice none 0 0)) { k with s := upd k.s i 0 } := by rcases four hi with rfl | rfl | rfl | rfl <;> rfl
  rw [e] at S2
  exact hk _ _ ((byt_nil (S2.sub (l := blk d _ :: L) inferInstance)).perm (.swap _ _ _))

/-- what a call does to one file -/
theorem f168 {v : Nat → Value} {i : Nat} {op : Int} [hm : InI (vw u) m L] (hi : i < 4) (hl : (k.l i).length + m.length ≤ 2 ^ 40) (S : St M w0 w (blk d (.cells (dcells v k).toArray 186 (0, 0)) :: byt (v i) (k.l i) :: L)) (hk : ∀ w' x, St M w0 w' (blk d (.cells (dcells (upd v i x) (k.doF op i m)).toArray 186 (0, 0)) :: byt x ((k.doF op i m).l i) :: L) → K (.tuple #[]) w') : callX Tryd.prog 168 [.pointer (some ⟨d, 1 + i * 2, none⟩), .int .i64 op, u] w K := by
  refine c168 _ _ _ _ _ ?_
  unfold s168
  unfold Dk.doF at hk
  refine joinX_i ?_
  (repeat refine Stp.h ?_)
  refine brX_d (fun h1 => ?_) (fun h1 => ?_)
  · rw [if_pos h1] at hk
    refine ⟨by kernel_rfl, ?_⟩
    refine f125 (l := k.l i) rfl hi S fun w1 S1 => hk _ (v i) ?_
    rw [upd_self]
    exact S1
  · rw [if_neg h1] at hk
    (repeat refine Stp.h ?_)
    refine brX_d (fun h2 => ?_) (fun h2 => ?_)
    · rw [if_pos h2] at hk
      refine ⟨by kernel_rfl, ?_⟩
      refine f185 hi S fun w1 x S1 => hk _ x ?_
      simp only [Dk.clear, upd_same]
      exact S1
    · rw [if_neg h2] at hk
      refine ⟨by kernel_rfl, ?_⟩
      refine f184 hi hl S fun w1 x S1 => hk _ x ?_
      simp only [Dk.lay, upd_same]
      exact S1
end
end Go.Proofs.YtgnmelnohclpgaaDoor

namespace Go.Proofs.YtgnmelnohclpgaaDoor
open Go Go.RowKit

theorem may_ok {k : Dk} {i : Int} (h : ¬ k.may i ≠ 0) : k.down = false ∧ 0 ≤ i ∧ i < 4 := by
  unfold Dk.may at h
  cases hd : k.down
  · rw [hd] at h
    simp only [Bool.false_eq_true, if_false] at h
    by_cases hc : i < 0 ∨ 4 ≤ i
    · rw [if_pos hc] at h; omega
    · exact ⟨rfl, by omega, by omega⟩
  · rw [hd] at h
    simp at h
theorem count_ok {k : Dk} (h : k.ok) : k.count.2.ok ∧ k.count.2.l = k.l ∧ k.count.2.s = k.s := by
  obtain ⟨h1, h2, h3⟩ := h
  unfold Dk.count
  split
  · exact ⟨⟨by dsimp only; omega, by dsimp only; omega, h3⟩, rfl, rfl⟩
  · split
    · exact ⟨⟨by dsimp only; omega, by dsimp only; omega, h3⟩, rfl, rfl⟩
    · exact ⟨⟨h1, h2, h3⟩, rfl, rfl⟩
theorem doF_ok {k : Dk} {op : Int} {i : Nat} {b : List UInt8} (h : k.ok) (hi : i < 4) (hb : (k.l i).length + b.length ≤ 1048576) : (k.doF op i b).ok ∧ ∃ y, (k.doF op i b).l = upd k.l i y ∧ (k.doF op i b).l i = y := by
  obtain ⟨h1, h2, h3⟩ := h
  unfold Dk.doF
  split
  · refine ⟨⟨h1, h2, fun j hj => ?_⟩, k.l i, by simp [Dk.keep, upd_self], rfl⟩
    have := h3 j hj
    by_cases e : j = i
    · subst e; simp only [Dk.keep, upd_same]; omega
    · simp only [Dk.keep, upd_ne _ _ e]; omega
  · split
    · refine ⟨⟨h1, h2, fun j hj => ?_⟩, [], rfl, by simp [Dk.clear, upd_same]⟩
      have := h3 j hj
      by_cases e : j = i
      · subst e; simp [Dk.clear, upd_same]
      · simp only [Dk.clear, upd_ne _ _ e]; omega
    · refine ⟨⟨h1, h2, fun j hj => ?_⟩, k.l i ++ b, rfl, by simp [Dk.lay, upd_same]⟩
      have := h3 j hj
      by_cases e : j = i
      · subst e; simp only [Dk.lay, upd_same, List.length_append]; omega
      · simp only [Dk.lay, upd_ne _ _ e]; omega
instance {α : Type} {mk : α → Item} {x : α} {A L : List Item} [h : InI mk x L] : InI mk x (A ++ L) := ⟨by simp [h.mem]⟩
instance {b : Nat} {o : Obj} {A L : List Item} [h : InL b o L] : InL b o (A ++ L) := ⟨fun w hh => h.get w (by
  induction A with
  | nil => exact hh
  | cons x A ih => exact ih (Has.tail hh))⟩

section
variable {M : List Nat} {w0 w : World} {L R : List Item} {v u : Value} {l m : List UInt8} {K : Cont} {b d : Nat} {k : Dk}

theorem f115 {op i : Int} [hp : Pk (dsk d) k L R] [hm : InI (vw u) m R] (hl : m.length ≤ 2 ^ 30) (S : St M w0 w L) (hk : ∀ w', St M w0 w' (dsk d (k.call op i m).2 :: R) → K (.int .i64 (k.call op i m).1) w') : callX Tryd.prog 115 [.pointer (some ⟨d, 0, none⟩), .int .i64 op, .int .i64 i, u] w K := by
  obtain ⟨v, ho, S1⟩ := S.dskOpen (hp := hp)
  clear S
  have S := S1
  clear S1
  refine c115 _ _ _ _ _ _ ?_
  unfold s115
  refine f116 (v := v) (k := k) S ?_
  unfold Dk.call at hk
  (repeat refine Stp.h ?_)
  refine brX_d (fun hmay => ?_) (fun hmay => ?_)
  · rw [if_pos hmay] at hk
    exact hk _ (S.dskShut ho)
  · rw [if_neg hmay] at hk
    obtain ⟨hd, h0, h4⟩ := may_ok hmay
    obtain ⟨n, rfl⟩ : ∃ n : Nat, i = n := ⟨i.toNat, by omega⟩
    have hn : n < 4 := by omega
    have hkn := ho.2.2 n hn
    rw [Int.toNat_natCast] at hk
    refine (S.hs.vw (v := u) (l := m) inferInstance).len ?_
    (repeat refine Stp.h ?_)
    refine ⟨h0, h4, ?_⟩
    rw [Int.toNat_natCast, add_none]
    replace S := S.fileOpen (i := n) hn
    (repeat refine Stp.h ?_)
    refine ldf hn rfl S ?_
    refine (S.hs.byt (v := v n) (l := k.l n) inferInstance).len ?_
    (repeat refine Stp.h ?_)
    rw [wi64 (n := 1048576 - ((k.l n).length : Nat)) (by omega)]
    refine brX_d (fun hfull => ?_) (fun hfull => ?_)
    · rw [if_pos (by omega)] at hk
      have S2 := S.fileShut (k' := k) hn (by rw [upd_self])
      rw [upd_self] at S2
      exact hk _ (S2.dskShut ho)
    · rw [if_neg (by omega)] at hk
      have hc := count_ok ho
      refine f167 ho S fun w1 S1 => ?_
      clear S
      have S := S1
      clear S1
      have fin : ∀ W, ¬ (k.count.1 = 0 ∨ op = 0) → St M w0 W (blk d (.cells (dcells v k.count.2).toArray 186 (0, 0)) :: byt (v n) (k.l n) :: (dpartsX v k n ++ R)) → K (.int .i64 k.count.1) W := by
        intro W hno S
        rw [if_neg hno] at hk
        refine hk _ (St.dskShut (v := v) ?_ hc.1)
        have := S.fileShut (k' := k.count.2) hn (by rw [upd_self]; exact hc.2.1)
        rw [upd_self] at this
        exact this
      have fin1 : ∀ W x, (k.count.1 = 0 ∨ op = 0) → St M w0 W (blk d (.cells (dcells (upd v n x) (k.count.2.doF op n m)).toArray 186 (0, 0)) :: byt x ((k.count.2.doF op n m).l n) :: (dpartsX v k n ++ R)) → K (.int .i64 k.count.1) W := by
        intro W x hy S
        rw [if_pos hy] at hk
        obtain ⟨h1, y, h2, h3⟩ := doF_ok (op := op) (i := n) (b := m) hc.1 hn (by rw [hc.2.1]; omega)
        refine hk _ (St.dskShut (v := upd v n x) ?_ h1)
        rw [h3] at S
        refine S.fileShut hn ?_
        rw [h2, hc.2.1]
      refine joinX_of (fun J => J (.bool (decide (k.count.1 = 0 ∨ op = 0))) w1) ?_ (fun J hJ => ?_)
      · refine joinX_i ?_
        refine brX_d (fun hy => ?_) (fun hy => ?_)
        · (repeat refine Stp.h ?_)
          refine ⟨h0, h4, ?_⟩
          rw [Int.toNat_natCast, add_none]
          rw [← hc.2.1] at S
          refine f168 (m := m) hn (by rw [hc.2.1]; omega) S fun w2 x S2 => ?_
          exact fin1 _ x hy S2
        · exact fin _ hy S
      · (repeat refine Stp.h ?_)
        refine brX_d (fun h1 => ?_) (fun h1 => ?_)
        · rw [decide_eq_true (.inl h1)] at hJ
          exact hJ
        · (repeat refine Stp.h ?_)
          have e : decide (k.count.1 = 0 ∨ op = 0) = decide (op = 0) := by congr 1; apply propext; constructor; (rintro (h | h); exact absurd h h1; exact h); exact .inr
          rw [e] at hJ
          exact hJ

/-- Append -/
theorem f57 {i : Int} [hp : Pk (dsk d) k L R] [hm : InI (vw u) m R] (hl : m.length ≤ 2 ^ 30) (S : St M w0 w L) (hk : ∀ w', St M w0 w' (dsk d (k.call 0 i m).2 :: R) → K (.int .i64 (k.call 0 i m).1) w') : callX Tryd.prog 57 [.pointer (some ⟨d, 0, none⟩), .int .i64 i, u] w K := by
  refine c57 _ _ _ _ _ ?_
  unfold s57
  exact f115 hl S hk
/-- Sync -/
theorem f112 {i : Int} [hp : Pk (dsk d) k L R] (S : St M w0 w L) (hk : ∀ w', St M w0 w' (dsk d (k.call 1 i []).2 :: R) → K (.int .i64 (k.call 1 i []).1) w') : callX Tryd.prog 112 [.pointer (some ⟨d, 0, none⟩), .int .i64 i] w K := by
  refine c112 _ _ _ _ ?_
  unfold s112
  refine f115 (m := []) (L := dsk d k :: vw (.slice none 0 0) [] :: R) (by simp) ((vw_nil (S.perm hp.p)).perm (.swap _ _ _)) fun w1 S1 => hk _ (S1.sub inferInstance)
/-- Reset -/
theorem f68 {i : Int} [hp : Pk (dsk d) k L R] (S : St M w0 w L) (hk : ∀ w', St M w0 w' (dsk d (k.call 2 i []).2 :: R) → K (.int .i64 (k.call 2 i []).1) w') : callX Tryd.prog 68 [.pointer (some ⟨d, 0, none⟩), .int .i64 i] w K := by
  refine c68 _ _ _ _ ?_
  unfold s68
  refine f115 (m := []) (L := dsk d k :: vw (.slice none 0 0) [] :: R) (by simp) ((vw_nil (S.perm hp.p)).perm (.swap _ _ _)) fun w1 S1 => hk _ (S1.sub inferInstance)
/-- Read -/
theorem f58 {i : Int} [hp : Pk (dsk d) k L R] (S : St M w0 w L) (hbad : k.may i ≠ 0 → ∀ w', St M w0 w' (dsk d k :: R) → K (.tuple #[.slice none 0 0, .int .i64 (k.may i)]) w')
    (hk : ∀ n : Nat, i = n → n < 4 → k.down = false → k.may i = 0 → (k.l n).length ≤ 1048576 → ∀ w' v', St M w0 w' (vw v' (k.l n) :: dsk d k :: R) → K (.tuple #[v', .int .i64 0]) w') : callX Tryd.prog 58 [.pointer (some ⟨d, 0, none⟩), .int .i64 i] w K := by
  obtain ⟨v, ho, S1⟩ := S.dskOpen (hp := hp)
  clear S
  have S := S1
  clear S1
  refine c58 _ _ _ _ ?_
  unfold s58
  refine f116 (v := v) (k := k) S ?_
  (repeat refine Stp.h ?_)
  refine brX_d (fun hmay => ?_) (fun hmay => ?_)
  · exact hbad hmay _ (S.dskShut ho)
  · obtain ⟨hd, h0, h4⟩ := may_ok hmay
    obtain ⟨n, rfl⟩ : ∃ n : Nat, i = n := ⟨i.toNat, by omega⟩
    have hn : n < 4 := by omega
    have hkn := ho.2.2 n hn
    (repeat refine Stp.h ?_)
    refine ⟨h0, h4, ?_⟩
    rw [Int.toNat_natCast, add_none]
    replace S := S.fileOpen (i := n) hn
    (repeat refine Stp.h ?_)
    refine ldf hn rfl S ?_
    refine f117o (v := v n) (l := k.l n) S (by omega) fun w1 v1 S1 => ?_
    refine hk n rfl hn hd (by omega) (by omega) w1 v1 ?_
    refine St.perm ?_ (List.Perm.swap _ _ _)
    refine St.dskShut (v := v) ?_ ho
    have S2 := S1.frz.perm ((List.Perm.swap _ _ _).trans (((List.Perm.swap _ _ _).trans (List.perm_middle.symm.cons _)).cons _))
    have S3 := S2.fileShut (R := vw v1 (k.l n) :: R) (k' := k) hn (by rw [upd_self])
    rw [upd_self] at S3
    exact S3
/-- New -/
theorem f50 (S : St M w0 w L) (hk : ∀ w' d, St M w0 w' (dsk d dk0 :: L) → K (.pointer (some ⟨d, 0, none⟩)) w') : callX Tryd.prog 50 [] w K := by
  refine c50 _ _ ?_
  unfold s50
  (repeat refine Stp.h ?_)
  (refine StpA.h ?_; clear S; intro d w1 S)
  refine hk _ d (St.pack (fun _ => .slice none 0 0) ?_ dk0_ok)
  have S4 := byt_nil (byt_nil (byt_nil (byt_nil S)))
  exact S4.perm (((((List.Perm.swap _ _ _).cons _).trans (.swap _ _ _)).cons _ |>.trans (.swap _ _ _)).cons _ |>.trans (.swap _ _ _))
/-- Arm -/
theorem f65 {n : Int} (hn : n < 2 ^ 63) [hp : Pk (dsk d) k L R] (S : St M w0 w L) (hk : ∀ w', St M w0 w' (dsk d { k with left := if -1 > n then -1 else n } :: R) → K (.tuple #[]) w') : callX Tryd.prog 65 [.pointer (some ⟨d, 0, none⟩), .int .i64 n] w K := by
  obtain ⟨v, ho, S1⟩ := S.dskOpen (hp := hp)
  clear S
  have S := S1
  clear S1
  refine c65 _ _ _ _ ?_
  unfold s65
  refine f124 (v := v) (k := k) S ?_
  unfold dcells at S
  (repeat refine Stp.h ?_)
  (refine StpW.h ?_; clear S; intro w1 S)
  refine hk _ (St.pack v S ⟨?_, ?_, ho.2.2⟩) <;> (dsimp only; split <;> omega)
end
end Go.Proofs.YtgnmelnohclpgaaDoor

namespace Go.Proofs.YtgnmelnohclpgaaDoor
open Go Go.RowKit

/-! ### The plain law -/
structure Lg where
  f : Nat
  rs : List Rc
  n : Nat
  torn : Bool
  bad : Bool
def lgOpen (f : Nat) (l : List UInt8) : Lg := ⟨f, (parseL l).1, (parseL l).2, decide ((parseL l).2 < l.length), false⟩
def add2 (g : Lg) (e : Int × Dk) (r : Rc) : Int × Lg × Dk := if e.1 ≠ 0 then (e.1, { g with bad := true }, e.2) else (0, { g with rs := g.rs ++ [r], n := g.n + (frameL r).length }, e.2)
def lgAdd (g : Lg) (k : Dk) (r : Rc) : Int × Lg × Dk :=
  if g.torn = true ∨ g.bad = true then (16, g, k)
  else if 65536 < r.2.length then (3, g, k)
  else if (k.call 0 g.f (frameL r)).1 ≠ 0 then add2 g (k.call 0 g.f (frameL r)) r
  else add2 g ((k.call 0 g.f (frameL r)).2.call 1 g.f []) r
def lgClear (g : Lg) (k : Dk) : Int × Lg × Dk :=
  if (k.call 2 g.f []).1 ≠ 0 then ((k.call 2 g.f []).1, { g with bad := true }, (k.call 2 g.f []).2)
  else (0, ⟨g.f, [], 0, false, false⟩, (k.call 2 g.f []).2)

/-! ### The log in memory -/
def jl (p d : Nat) (g : Lg) : Item := pack (fun v : Value => True) (fun v => [blk p (.cells [.pointer (some ⟨d, 0, none⟩), .int .i64 (g.f : Nat), v, .int .i64 (g.n : Nat), .bool g.torn, .bool g.bad].toArray 99 (0, 0)), recs v g.rs])

section
variable {M : List Nat} {w0 w : World} {L L1 R : List Item} {v u x : Value} {l m t : List UInt8} {K : Cont} {b d p : Nat} {k : Dk} {g : Lg} {rs : List Rc}

theorem St.jlOpen [hp : Pk (jl p d) g L R] (S : St M w0 w L) : ∃ v, St M w0 w (blk p (.cells [.pointer (some ⟨d, 0, none⟩), .int .i64 (g.f : Nat), v, .int .i64 (g.n : Nat), .bool g.torn, .bool g.bad].toArray 99 (0, 0)) :: recs v g.rs :: R) := by
  obtain ⟨v, _, S⟩ := (S.perm hp.p).unpack
  exact ⟨v, S⟩
theorem St.jlShut {o : Obj} {l' R1 R2 : List Item} (v : Value) (S : St M w0 w l') [h1 : Pk (blk p) o l' R1] [h2 : Pk (recs v) rs R1 R2] [h3 : SubL R R2]
    (ho : o = .cells [.pointer (some ⟨d, 0, none⟩), .int .i64 (g.f : Nat), v, .int .i64 (g.n : Nat), .bool g.torn, .bool g.bad].toArray 99 (0, 0)) (hr : rs = g.rs) : St M w0 w (jl p d g :: R) := by
  subst ho hr
  exact St.pack v ((S.perm (h1.p.trans (h2.p.cons _))).sub (l := _ :: _ :: R) inferInstance) trivial

theorem buildSX_and {ty : TypeId} {s : Nat} {xs : List Value} {P : World → Prop} {F : Value → World → Prop} (h : buildSX ty s xs w F) (hP : ∀ w', Ext w w' → P w') : buildSX ty s xs w fun t9 w10 => (P w10 ∧ F t9 w10) := ⟨h.1, fun b w1 hn => ⟨hP w1 hn.ext, h.2 b w1 hn⟩⟩
theorem f111 {c : List Value} {ty : TypeId} [hi : InL p (.cells (.pointer (some ⟨d, 0, none⟩) :: c).toArray ty (0, 0)) L] (S : St M w0 w L) (hk : K (.bool false) w) : callX Tryd.prog 111 [.pointer (some ⟨p, 0, none⟩)] w K := by
  refine c111 _ _ _ ?_
  unfold s111
  (repeat refine Stp.h ?_)
  exact hk
theorem f111n (hk : K (.bool true) w) : callX Tryd.prog 111 [.pointer none] w K := by
  refine c111 _ _ _ ?_
  unfold s111
  (repeat refine Stp.h ?_)
  exact hk

/-- Open -/
theorem f51 {i : Int} [hE : Err M w0] [hp : Pk (dsk d) k L R] (S : St M w0 w L) (hbad : k.may i ≠ 0 → ∀ w', St M w0 w' (dsk d k :: R) → K (.tuple #[.pointer none, .int .i64 (k.may i)]) w')
    (hk : ∀ n : Nat, i = n → n < 4 → k.down = false → k.may i = 0 → (k.l n).length ≤ 1048576 → ∀ w' p, St M w0 w' (jl p d (lgOpen n (k.l n)) :: dsk d k :: R) → K (.tuple #[.pointer (some ⟨p, 0, none⟩), .int .i64 0]) w') : callX Tryd.prog 51 [.pointer (some ⟨d, 0, none⟩), .int .i64 i] w K := by
  refine c51 _ _ _ _ ?_
  unfold s51
  refine f58 (hp := hp) S (fun hm w1 S1 => ?_) (fun n hn h4 hd hm hl w1 v1 S1 => ?_)
  · (repeat refine Stp.h ?_)
    refine brX_dt (by first | omega | simp | decide) ?_
    exact hbad hm _ S1
  · (repeat refine Stp.h ?_)
    refine brX_df (by first | omega | simp | decide) ?_
    refine f40 (v := v1) (l := k.l n) (by omega) S1 fun w2 ov S2 => ?_
    clear S
    have S := S2
    clear S2 S1
    haveI := (recs_one S.hs (v := ov) inferInstance).1
    (repeat refine Stp.h ?_)
    refine (S.hs.vw (v := v1) (l := k.l n) inferInstance).len ?_
    (repeat refine Stp.h ?_)
    (refine StpA.h ?_; clear S; intro p w3 S)
    refine hk n hn h4 hd hm hl w3 p (S.jlShut ov ?_ rfl)
    subst hn
    simp [lgOpen]
theorem f51n {i : Value} (hk : K (.tuple #[.pointer none, .int .i64 1]) w) : callX Tryd.prog 51 [.pointer none, i] w K := by
  refine c51 _ _ _ _ ?_
  unfold s51
  refine c58 _ _ _ _ ?_
  unfold s58
  refine f116n ?_
  (repeat refine Stp.h ?_)
  refine brX_dt (by first | omega | simp | decide) ?_
  (repeat refine Stp.h ?_)
  refine brX_dt (by first | omega | simp | decide) ?_
  exact hk

/-- Add -/
theorem f52 {r : Rc} (hg : -9223372036854775808 ≤ r.1 ∧ r.1 < 9223372036854775808) (hn : g.n ≤ 2 ^ 40) (hrl : g.rs.length ≤ 2 ^ 30) [hm : InI (vw x) r.2 R] (S : St M w0 w (jl p d g :: dsk d k :: R)) (hk : ∀ w', St M w0 w' (jl p d (lgAdd g k r).2.1 :: dsk d (lgAdd g k r).2.2 :: R) → K (.int .i64 (lgAdd g k r).1) w') : callX Tryd.prog 52 [.pointer (some ⟨p, 0, none⟩), .agg (rcC r.1 x).toArray] w K := by
  refine c52 _ _ _ _ ?_
  unfold s52
  rw [rcC_lit]
  haveI hone := (S.hs.vw (v := x) (l := r.2) inferInstance).one
  (refine StpA.h ?_; clear S; intro b1 w1 S)
  obtain ⟨v, S1⟩ := (S.perm (.swap _ _ _)).jlOpen (p := p) (d := d) (g := g)
  clear S
  have S := S1
  clear S1
  refine f111 (p := p) S ?_
  unfold lgAdd at hk
  (repeat refine Stp.h ?_)
  refine joinX_of (fun J => J (.bool (decide (g.torn = true ∨ g.bad = true))) w1) ?_ (fun J hJ => ?_)
  · refine brX_d (fun ht => ?_) (fun ht => ?_)
    · rw [if_pos ht] at hk
      exact hk _ (S.jlShut v rfl rfl)
    · rw [if_neg ht] at hk
      (repeat refine Stp.h ?_)
      rw [← rcC_lit]
      refine f37 hg S (fun hbig w2 S2 => ?_) (fun hsm w2 v2 S2 => ?_)
      · rw [if_pos hbig] at hk
        (repeat refine Stp.h ?_)
        refine brX_dt (by first | omega | simp | decide) ?_
        exact hk _ (S2.jlShut v rfl rfl)
      · rw [if_neg (by omega)] at hk
        clear S
        have S := S2.frz
        clear S2
        haveI := (S.hs.vw (v := v2) (l := frameL r) inferInstance).one
        have hfl : (frameL r).length ≤ 65554 := by
          have hp := putI_len r.1 hg
          simp [frameL, textL, le4_len]
          omega
        (repeat refine Stp.h ?_)
        refine brX_df (by first | omega | simp | decide) ?_
        (refine S.drew ?_; clear S; intro w3 S)
        refine ⟨Has _, S.hs, ?_⟩
        (repeat refine Stp.h ?_)
        refine f57 (u := v2) (m := frameL r) (by omega) S fun w4 S4 => ?_
        clear S
        have S := S4
        clear S4
        (repeat refine Stp.h ?_)
        generalize hc1 : k.call 0 g.f (frameL r) = c1 at S hk ⊢
        refine joinX_of (fun J => ∀ W (e : Int × Dk), (∀ w', St M w0 w' (jl p d (add2 g e r).2.1 :: dsk d (add2 g e r).2.2 :: R) → K (.int .i64 (add2 g e r).1) w') →
          St M w0 W (dsk d e.2 :: vw v2 (frameL r) :: blk p (.cells [.pointer (some ⟨d, 0, none⟩), .int .i64 (g.f : Nat), v, .int .i64 (g.n : Nat), .bool g.torn, .bool g.bad].toArray 99 (0, 0)) :: recs v g.rs :: blk b1 (.cells [.int .i64 r.1, x].toArray 62 (0, 0)) :: R) → J (.int .i64 e.1) W) (fun W (e : Int × Dk) hk S => ?_) (fun J hJ => ?_)
        · unfold add2 at hk
          (repeat refine Stp.h ?_)
          refine brX_d (fun he => ?_) (fun he => ?_)
          · rw [if_pos he] at hk
            (repeat refine Stp.h ?_)
            (refine StpW.h ?_; clear S; intro w5 S)
            exact hk _ (S.jlShut v rfl rfl)
          · rw [if_neg he] at hk
            (refine S.drew ?_; clear S; intro w5 S)
            refine ⟨Has _, S.hs, ?_⟩
            (repeat refine Stp.h ?_)
            refine S.bytes (l := []) rfl fun w6 v6 S6 => ?_
            refine ⟨S6.hs.sub inferInstance, ?_⟩
            refine S6.append (v := v6) (l := []) (m := r.2) (S6.hs.vw (v := x) (l := r.2) inferInstance) (by simp; omega) fun w7 v7 S7 => ?_
            rw [List.nil_append] at S7
            refine ⟨S7.hs.sub inferInstance, ?_⟩
            clear S6
            have S8 := S7.frz
            clear S7
            haveI := (S8.hs.vw (v := v7) (l := r.2) inferInstance).one
            (repeat refine Stp.h ?_)
            rw [← rcC_lit]
            refine buildSX_and ?_ (fun w' he => (S8.ext he).hs.sub inferInstance)
            refine recs_push (x := v7) (r := r) hrl (S8.sub (l := recs v g.rs :: vw v7 r.2 :: vw v2 (frameL r) :: dsk d e.2 :: blk p (.cells [.pointer (some ⟨d, 0, none⟩), .int .i64 (g.f : Nat), v, .int .i64 (g.n : Nat), .bool g.torn, .bool g.bad].toArray 99 (0, 0)) :: R) inferInstance) fun w9 v9 S9 => ?_
            clear S8 S
            have S := S9
            clear S9
            haveI := (recs_one S.hs (v := v9) inferInstance).1
            (repeat refine Stp.h ?_)
            (refine StpW.h ?_; clear S; intro w10 S)
            (repeat refine Stp.h ?_)
            refine (S.hs.vw (v := v2) (l := frameL r) inferInstance).len ?_
            (repeat refine Stp.h ?_)
            rw [wi64 (n := ((g.n : Nat) : Int) + ((frameL r).length : Nat)) (by omega)]
            (repeat refine Stp.h ?_)
            (refine StpW.h ?_; clear S; intro w11 S)
            refine hk _ (S.jlShut v9 ?_ rfl)
            rw [← Int.natCast_add]
        · refine brX_d (fun h0 => ?_) (fun h0 => ?_)
          · rw [if_neg (by omega)] at hk
            (refine S.drew ?_; clear S; intro w5 S)
            refine ⟨Has _, S.hs, ?_⟩
            (repeat refine Stp.h ?_)
            refine f112 S fun w6 S6 => ?_
            exact hJ _ _ hk S6
          · rw [if_pos h0] at hk
            exact hJ _ _ hk S
  · (repeat refine Stp.h ?_)
    cases htn : g.torn
    · (repeat refine Stp.h ?_)
      cases hbd : g.bad
      · rw [htn, hbd] at hJ
        exact hJ
      · rw [htn, hbd] at hJ
        exact hJ
    · (repeat refine Stp.h ?_)
      rw [htn] at hJ
      simpa using hJ
end
end Go.Proofs.YtgnmelnohclpgaaDoor

namespace Go.Proofs.YtgnmelnohclpgaaDoor
open Go Go.RowKit

/-! ### The plain law -/
def txsN (g : Int) (rs : List Rc) : List (List UInt8) := (rs.filter fun r => decide (r.1 = g)).map (·.2)
def txs (g : Int) (rs : List Rc) : List (List UInt8) := (txsN g rs).take 1000
theorem txsN_app (g : Int) (a c : List Rc) : txsN g (a ++ c) = txsN g a ++ txsN g c := by simp [txsN]
theorem txsN_snoc {g : Int} {rs : List Rc} {i : Nat} {r : Rc} (h : rs[i]? = some r) : txsN g (rs.take (i + 1)) = txsN g (rs.take i) ++ (if r.1 = g then [r.2] else []) := by
  rw [List.take_add_one, txsN_app, h]
  congr 1
  unfold txsN
  by_cases e : r.1 = g <;> simp [e]
theorem txs_stop {g : Int} {rs : List Rc} {i : Nat} (h : (txsN g (rs.take i)).length = 1000) : txs g rs = txsN g (rs.take i) := by
  unfold txs
  rw [← List.take_append_drop i rs, txsN_app, List.take_append_drop, ← h, List.take_left]
theorem txs_all {g : Int} {rs : List Rc} (h : (txsN g rs).length < 1000) : txs g rs = txsN g rs := List.take_of_length_le (by omega)
def srow (v : Value) (ss : List (List UInt8)) : Item := orow 9 1 v (ss.map fun s => [str s])

section
variable {M : List Nat} {w0 w : World} {L L1 R : List Item} {v u x : Value} {l m t : List UInt8} {K : Cont} {b d p : Nat} {k : Dk} {g : Lg} {rs : List Rc} {ss : List (List UInt8)}

theorem srow_push {t : List UInt8} (hl : ss.length ≤ 2 ^ 30) (S : St M w0 w (srow v ss :: L)) (hk : ∀ w' v', St M w0 w' (srow v' (ss ++ [t]) :: L) → K v' w') :
    buildSX 9 1 [str t] w fun t9 w10 => appendX 9 1 16 [Value.string { data := #[] }] v t9 w10 K := by
  refine St.push (e := [str t]) S rfl rfl ?_ rfl ?_ fun w' v' S' => hk w' v' ?_
  · intro y hy
    simp only [List.mem_cons, List.not_mem_nil, or_false] at hy
    subst hy
    rfl
  · simp only [List.length_map]
    omega
  · unfold srow
    rw [List.map_append]
    exact S'
theorem srow_rd (h : Has L w) (hm : InI (srow v) ss L) : RdR w 1 v (ss.map fun s => [str s]) := by
  obtain ⟨fp, o, hp⟩ := h.get hm.mem
  exact hp.2.rd
/-- one record of those that are known -/
theorem recs_at {i : Nat} {r : Rc} (S : St M w0 w L) [hp : Pk (recs v) rs L R] (h : rs[i]? = some r) : ∃ x, One x ∧ (∃ cs, RdR w 2 v cs ∧ cs[i]? = some (rcC r.1 x)) ∧ St M w0 w (vw x r.2 :: recs v rs :: R) := by
  obtain ⟨bs, hb, S⟩ := (S.perm hp.p).unpack
  have hi := (List.getElem?_eq_some_iff.1 h).1
  obtain ⟨x, hx⟩ : ∃ x, bs[i]? = some x := ⟨bs[i], List.getElem?_eq_getElem (by omega)⟩
  have hm : vw x r.2 ∈ vws bs rs := by
    refine List.mem_iff_getElem?.2 ⟨i, ?_⟩
    unfold vws
    rw [List.getElem?_zipWith, hx, h]
  haveI hI : InI (vw x) r.2 ((orow 62 2 v (rcCells bs rs) :: vws bs rs) ++ R) := ⟨List.mem_append_left _ (List.mem_cons_of_mem _ hm)⟩
  have hr := S.hs.vw hI
  have ho : RdR w 2 v (rcCells bs rs) := S.hs.orow (t := 62) (s := 2) (v := v) (cs := rcCells bs rs) ⟨by simp⟩
  refine ⟨x, hr.one, ⟨_, ho, ?_⟩, ?_⟩
  · unfold rcCells
    rw [List.getElem?_zipWith, hx, h]
  · have S2 := S.vwSub hI hr (fun r hr => hr)
    have S3 : St M w0 w ((orow 62 2 v (rcCells bs rs) :: vws bs rs) ++ (vw x r.2 :: R)) := S2.perm List.perm_middle.symm
    have S4 : St M w0 w (recs v rs :: vw x r.2 :: R) := St.pack bs S3 hb
    exact S4.perm (.swap _ _ _)

theorem f54 {c : Lg} [hp : Pk (jl p d) c L R] (S : St M w0 w L) (hk : ∀ w', St M w0 w' L → K (.int .i64 (c.n : Nat)) w') : callX Tryd.prog 54 [.pointer (some ⟨p, 0, none⟩)] w K := by
  refine c54 _ _ _ ?_
  unfold s54
  obtain ⟨v, S1⟩ := S.jlOpen (hp := hp)
  (repeat refine Stp.h ?_)
  exact hk _ S
theorem f54n (hk : K (.int .i64 0) w) : callX Tryd.prog 54 [.pointer none] w K := by
  refine c54 _ _ _ ?_
  unfold s54
  (repeat refine Stp.h ?_)
  exact hk
theorem f56 {c : Lg} [hp : Pk (jl p d) c L R] (S : St M w0 w L) (hk : ∀ w', St M w0 w' L → K (.bool c.torn) w') : callX Tryd.prog 56 [.pointer (some ⟨p, 0, none⟩)] w K := by
  refine c56 _ _ _ ?_
  unfold s56
  obtain ⟨v, S1⟩ := S.jlOpen (hp := hp)
  (repeat refine Stp.h ?_)
  exact hk _ S
theorem f56n (hk : K (.bool false) w) : callX Tryd.prog 56 [.pointer none] w K := by
  refine c56 _ _ _ ?_
  unfold s56
  (repeat refine Stp.h ?_)
  exact hk
/-- Clear -/
theorem f55 (S : St M w0 w (jl p d g :: dsk d k :: R)) (hk : ∀ w', St M w0 w' (jl p d (lgClear g k).2.1 :: dsk d (lgClear g k).2.2 :: R) → K (.int .i64 (lgClear g k).1) w') : callX Tryd.prog 55 [.pointer (some ⟨p, 0, none⟩)] w K := by
  refine c55 _ _ _ ?_
  unfold s55
  obtain ⟨v, S1⟩ := S.jlOpen (p := p) (d := d) (g := g)
  clear S
  have S := S1
  clear S1
  refine f111 (p := p) S ?_
  unfold lgClear at hk
  (repeat refine Stp.h ?_)
  (refine S.drew ?_; clear S; intro w1 S)
  refine ⟨Has _, S.hs, ?_⟩
  (repeat refine Stp.h ?_)
  refine f68 S fun w2 S2 => ?_
  clear S
  have S := S2
  clear S2
  (repeat refine Stp.h ?_)
  refine brX_d (fun he => ?_) (fun he => ?_)
  · rw [if_pos he] at hk
    (repeat refine Stp.h ?_)
    (refine StpW.h ?_; clear S; intro w3 S)
    exact hk _ (S.jlShut v rfl rfl)
  · rw [if_neg he] at hk
    (refine S.drew ?_; clear S; intro w3 S)
    refine ⟨Has _, S.hs, ?_⟩
    (repeat refine Stp.h ?_)
    (refine StpW.h ?_; clear S; intro w4 S)
    exact hk _ ((recs_nil S).jlShut (.slice none 0 0) rfl rfl)
end
end Go.Proofs.YtgnmelnohclpgaaDoor

namespace Go.Proofs.YtgnmelnohclpgaaDoor
open Go Go.RowKit
section
variable {M : List Nat} {w0 w : World} {L L1 R : List Item} {v u x : Value} {l m t : List UInt8} {K : Cont} {b d p c : Nat} {k : Dk} {g : Lg} {rs : List Rc} {ss : List (List UInt8)}

instance {K : Value → Prop} {f : Fn} {a c : Array Value} : Stp (eqX .func (.func f a c) .nilFunc K) (K (.bool false)) := ⟨id⟩
theorem f114 {ov : Value} [hm : InI (vw v) l L] (hl : ss.length < 1000) (S : St M w0 w (blk c (.cells [ov].toArray 93 (0, 0)) :: srow ov ss :: L)) (hk : ∀ w' ov', St M w0 w' (blk c (.cells [ov'].toArray 93 (0, 0)) :: srow ov' (ss ++ [l]) :: L) → K (.bool (decide (((ss ++ [l]).length : Int) < 1000))) w') : callX Tryd.prog 114 [v, .pointer (some ⟨c, 0, none⟩)] w K := by
  refine c114 _ _ _ _ ?_
  unfold s114
  (repeat refine Stp.h ?_)
  refine srow_push (ss := ss) (t := l) (by omega) (S.perm (.swap _ _ _)) fun w1 ov' S1 => ?_
  clear S
  have S := S1
  clear S1
  have hr := srow_rd S.hs (v := ov') inferInstance
  haveI := hr.one
  (refine StpW.h ?_; clear S; intro w2 S)
  (repeat refine Stp.h ?_)
  refine hr.len ?_
  (repeat refine Stp.h ?_)
  have := hk _ ov' (S.perm (.swap _ _ _))
  simpa using this

theorem f166 {gen : Int} {pc : List Value} {b1 b2 : Nat} (hpc : pc[2]? = some v) (hrl : rs.length ≤ 2 ^ 30) (hb : ∀ r, r ∈ rs → r.2.length ≤ 65536) (S : St M w0 w (blk c (.cells [.slice none 0 0].toArray 93 (0, 0)) :: blk b1 (.cells [.pointer (some ⟨p, 0, none⟩)].toArray 90 (0, 0)) :: blk b2 (.cells [.int .i64 gen].toArray 2 (0, 0)) :: blk p (.cells pc.toArray 99 (0, 0)) :: recs v rs :: R))
    (hk : ∀ w' ov, St M w0 w' (blk c (.cells [ov].toArray 93 (0, 0)) :: srow ov (txs gen rs) :: blk p (.cells pc.toArray 99 (0, 0)) :: recs v rs :: R) → K (.tuple #[]) w') : callX Tryd.prog 166 [.func (.func 114) #[] #[.pointer (some ⟨c, 0, none⟩)], .pointer (some ⟨b1, 0, none⟩), .pointer (some ⟨b2, 0, none⟩)] w K := by
  refine c166 _ _ _ _ _ ?_
  unfold s166
  (repeat refine Stp.h ?_)
  have hpb : w.heap[p]? = some (.cells pc.toArray 99 (0, 0)) := S.get (by simp)
  refine ldO hpb hpc ?_
  clear hpb
  obtain ⟨hone, cs, hcs, hlen⟩ := recs_one S.hs (v := v) inferInstance
  refine hcs.len ?_
  rw [hlen]
  clear hcs hlen cs
  refine ⟨fun t W => ∃ (i : Nat) (ov : Value), t = .int .i64 i ∧ i ≤ rs.length ∧ (txsN gen (rs.take i)).length < 1000 ∧
    St M w0 W (blk c (.cells [ov].toArray 93 (0, 0)) :: srow ov (txsN gen (rs.take i)) :: blk b1 (.cells [.pointer (some ⟨p, 0, none⟩)].toArray 90 (0, 0)) :: blk b2 (.cells [.int .i64 gen].toArray 2 (0, 0)) :: blk p (.cells pc.toArray 99 (0, 0)) :: recs v rs :: R),
    fun t W => match t with | .int _ i => rs.length - i.toNat | _ => 0, ⟨0, .slice none 0 0, rfl, by omega, by simp [txsN], ?_⟩, ?_⟩
  · have := (orow_nil (t := 9) (s := 1) S).perm (.swap _ _ _)
    exact this
  · clear S
    rintro t W ⟨i, ov, rfl, hi, hc, S⟩
    (repeat refine Stp.h ?_)
    refine brX_d (fun hlt => ?_) (fun hlt => ?_)
    · have hlt : i < rs.length := by omega
      have hr := List.getElem?_eq_getElem hlt
      have hrb := hb _ (List.getElem_mem hlt)
      generalize rs[i] = r at hr hrb
      have hs := txsN_snoc (g := gen) hr
      obtain ⟨x, hx, ⟨cs, hcs, hci⟩, S1⟩ := recs_at (v := v) (rs := rs) S hr
      clear S
      have S := S1
      clear S1
      refine hcs.atN hci ?_
      rw [rcC_lit]
      (refine StpA.h ?_; clear S; intro b3 w1 S)
      (refine StpW.h ?_; clear S; intro w2 S)
      refine joinX_of (fun J => ∀ W' ov' (q : Bool), (q = true → (txsN gen (rs.take (i + 1))).length = 1000) → (q = false → (txsN gen (rs.take (i + 1))).length < 1000) →
        St M w0 W' (blk c (.cells [ov'].toArray 93 (0, 0)) :: srow ov' (txsN gen (rs.take (i + 1))) :: blk b1 (.cells [.pointer (some ⟨p, 0, none⟩)].toArray 90 (0, 0)) :: blk b2 (.cells [.int .i64 gen].toArray 2 (0, 0)) :: blk p (.cells pc.toArray 99 (0, 0)) :: recs v rs :: R) → J (.bool q) W') (fun W' ov' q hq1 hq2 S' => ?_) (fun J hJ => ?_)
      · cases q
        · clear S
          (repeat refine Stp.h ?_)
          rw [wi64 (n := ((i : Nat) : Int) + 1) (by omega)]
          exact ⟨⟨i + 1, ov', by simp, by omega, hq2 rfl, S'⟩, by show _ < _; simp; omega⟩
        · clear S
          (repeat refine Stp.h ?_)
          have := hq1 rfl
          refine hk _ ov' ?_
          rw [txs_stop this]
          exact S'.sub inferInstance
      · (repeat refine Stp.h ?_)
        refine brX_d (fun he => ?_) (fun he => ?_)
        · rw [if_pos he] at hs
          refine S.bytes (l := []) rfl fun w3 v3 S3 => ?_
          clear S
          have S := S3
          clear S3
          (repeat refine Stp.h ?_)
          refine S.append (v := v3) (l := []) (m := r.2) (S.hs.vw (v := x) (l := r.2) inferInstance) (by simp; omega) fun w4 v4 S4 => ?_
          rw [List.nil_append] at S4
          clear S
          have S := S4.frz
          clear S4
          refine ⟨by kernel_rfl, ?_⟩
          refine f114 (ov := ov) (v := v4) (l := r.2) (ss := txsN gen (rs.take i)) (L := vw v4 r.2 :: blk b1 (.cells [.pointer (some ⟨p, 0, none⟩)].toArray 90 (0, 0)) :: blk b2 (.cells [.int .i64 gen].toArray 2 (0, 0)) :: blk p (.cells pc.toArray 99 (0, 0)) :: recs v rs :: R) hc (S.sub inferInstance) fun w5 ov' S5 => ?_
          clear S
          rw [← hs] at S5 ⊢
          (repeat refine Stp.h ?_)
          refine hJ _ ov' _ (fun hq => ?_) (fun hq => ?_) (S5.sub inferInstance)
          · have := congrArg List.length hs
            simp only [List.length_append, List.length_cons, List.length_nil] at this
            simp at hq
            omega
          · simp at hq
            omega
        · rw [if_neg he, List.append_nil] at hs
          refine hJ _ ov _ (fun hq => by simp at hq) (fun _ => by rw [hs]; exact hc) ?_
          rw [hs]
          exact S.sub inferInstance
    · have : i = rs.length := by omega
      subst this
      rw [List.take_length] at hc S
      refine hk _ ov ?_
      rw [txs_all hc]
      exact S.sub inferInstance

/-- Texts -/
theorem f53 {gen : Int} [hp : Pk (jl p d) g L R] (hrl : g.rs.length ≤ 2 ^ 30) (hb : ∀ r, r ∈ g.rs → r.2.length ≤ 65536) (S : St M w0 w L) (hk : ∀ w' ov, St M w0 w' (srow ov (txs gen g.rs) :: jl p d g :: R) → K ov w') : callX Tryd.prog 53 [.pointer (some ⟨p, 0, none⟩), .int .i64 gen] w K := by
  obtain ⟨v, S1⟩ := S.jlOpen (hp := hp)
  clear S
  have S := S1
  clear S1
  refine c53 _ _ _ _ ?_
  unfold s53
  (refine StpA.h ?_; clear S; intro c w1 S)
  refine c113 _ _ _ _ ?_
  unfold s113
  (refine StpA.h ?_; clear S; intro b1 w2 S)
  (refine StpA.h ?_; clear S; intro b2 w3 S)
  (repeat refine Stp.h ?_)
  refine ⟨by kernel_rfl, ?_⟩
  refine f166 (gen := gen) (c := c) (p := p) (b1 := b1) (b2 := b2) (v := v) (pc := [.pointer (some ⟨d, 0, none⟩), .int .i64 (g.f : Nat), v, .int .i64 (g.n : Nat), .bool g.torn, .bool g.bad]) (rs := g.rs) (R := R) rfl hrl hb (S.sub inferInstance) fun w4 ov S4 => ?_
  clear S
  have S := S4
  clear S4
  (repeat refine Stp.h ?_)
  have S1 := S.drop
  exact hk _ ov ((S1.perm (.swap _ _ _)).jlShut (R := srow ov (txs gen g.rs) :: R) v rfl rfl |>.perm (.swap _ _ _))
theorem f53n {gen : Value} [One gen] [hcl : Cel gen [gen]] (S : St M w0 w L) (hk : ∀ w', St M w0 w' L → K (.slice none 0 0) w') : callX Tryd.prog 53 [.pointer none, gen] w K := by
  refine c53 _ _ _ _ ?_
  unfold s53
  (refine StpA.h ?_; clear S; intro c w1 S)
  refine c113 _ _ _ _ ?_
  unfold s113
  (refine StpA.h ?_; clear S; intro b1 w2 S)
  (refine StpA.h ?_; clear S; intro b2 w3 S)
  (repeat refine Stp.h ?_)
  refine ⟨by kernel_rfl, ?_⟩
  refine c166 _ _ _ _ _ ?_
  unfold s166
  (repeat refine Stp.h ?_)
  exact hk _ S.drop.drop.drop

theorem parseL_small : ∀ (n : Nat) (l : List UInt8), l.length ≤ n → ∀ r, r ∈ (parseL l).1 → r.2.length ≤ 65536 := by
  intro n
  induction n with
  | zero =>
    intro l h
    have hl : firstL l = none := by unfold firstL; rw [if_pos (by omega)]
    rw [parseL_none hl]
    simp
  | succ n ih =>
    intro l h
    cases hf : firstL l with
    | none => rw [parseL_none hf]; simp
    | some p =>
      obtain ⟨r, k⟩ := p
      have hk := firstL_len hf
      have := ih (l.drop k) (by simp; omega)
      rw [parseL_some hf]
      intro q hq
      rcases List.mem_cons.1 hq with rfl | hq
      · exact hk.2.2.2
      · exact this q hq
theorem lgOpen_small (f : Nat) (l : List UInt8) : ∀ r, r ∈ (lgOpen f l).rs → r.2.length ≤ 65536 := parseL_small l.length l (Nat.le_refl _)
end
end Go.Proofs.YtgnmelnohclpgaaDoor

namespace Go.Proofs.YtgnmelnohclpgaaDoor
open Go Go.RowKit

theorem rdG_groups : ∀ (k n : Nat) (r : List UInt8) (i u : Nat), n < 128 ^ k → n * 2 ^ (7 * i) < 2 ^ 64 → i ≤ 9 → (0 < i → 0 < n) → rdG (groups n ++ r) i u = .inr (u + n * 2 ^ (7 * i), r)
  | 0, n, r, i, u, hk, hb, hi, hp => by
    have : n = 0 := by simpa using hk
    subst this
    have : i = 0 := by omega
    subst this
    rw [groups_small (by omega)]
    simp [rdG]
  | k + 1, n, r, i, u, hk, hb, hi, hp => by
    have h9 : i = 9 → n ≤ 1 := by rintro rfl; omega
    by_cases h : n < 128
    · rw [groups_small h]
      have hx : (n.toUInt8).toNat = n := by simp [Nat.toUInt8]; omega
      simp only [List.singleton_append, rdG, hx]
      rw [if_neg (by rintro (⟨h1, h2⟩ | ⟨h1, h2⟩); have := h9 h1; omega; have := hp h2; omega), if_pos h, Nat.mod_eq_of_lt h]
    · rw [groups_big (by omega)]
      have hx : ((n % 128 + 128).toUInt8).toNat = n % 128 + 128 := by simp [Nat.toUInt8]; omega
      simp only [List.cons_append, rdG, hx]
      have hi9 : i ≠ 9 := fun h => by have := h9 h; omega
      have hp2 : 2 ^ (7 * (i + 1)) = 128 * 2 ^ (7 * i) := by rw [show 7 * (i + 1) = 7 * i + 7 by omega, Nat.pow_add]; omega
      have hdm : n = 128 * (n / 128) + n % 128 := (Nat.div_add_mod n 128).symm
      have hmul : n * 2 ^ (7 * i) = n / 128 * (128 * 2 ^ (7 * i)) + n % 128 * 2 ^ (7 * i) := by
        conv => lhs; rw [hdm]
        rw [Nat.add_mul, Nat.mul_comm 128, Nat.mul_assoc]
      rw [if_neg (by rintro (⟨h1, h2⟩ | ⟨h1, h2⟩); exact hi9 h1; omega), if_neg (by omega)]
      rw [rdG_groups k (n / 128) r (i + 1) _ (by rw [Nat.pow_succ] at hk; omega) (by rw [hp2]; omega) (by omega) (fun _ => by omega)]
      rw [hp2, hmul, show (n % 128 + 128) % 128 = n % 128 by omega]
      congr 2
      omega
theorem zag_zig (v : Int) : zag (zig v) = v := by
  unfold zag zig
  split <;> split <;> omega
theorem cInt_putI {g : Int} (hg : -9223372036854775808 ≤ g ∧ g < 9223372036854775808) (t : List UInt8) : cInt (putI g ++ t, 0) = ((t, 0), g) := by
  have hz := zig_lt hg
  have h := rdG_groups 10 (zig g) t 0 0 (by omega) (by simpa using hz) (by omega) (by omega)
  unfold cInt
  rw [cRd_inr (n := zig g) (r := t) (by unfold putI; rw [h]; simp)]
  rw [zag_zig]
def Rc.ok (r : Rc) : Prop := (-9223372036854775808 ≤ r.1 ∧ r.1 < 9223372036854775808) ∧ r.2.length ≤ 65536
theorem textL_len {r : Rc} (h : Rc.ok r) : (textL r).length ≤ 65546 := by
  have := putI_len r.1 h.1
  have := h.2
  simp [textL]
  omega
theorem firstL_frame {r : Rc} (h : Rc.ok r) (m : List UInt8) : firstL (frameL r ++ m) = some (r, (frameL r).length) := by
  have ht := textL_len h
  have hs := sumL_lt (textL r)
  have e0 : frameL r ++ m = le4 (textL r).length ++ (le4 (sumL (textL r)) ++ (textL r ++ m)) := by simp [frameL, List.append_assoc]
  have e1 : num4 (frameL r ++ m) = (textL r).length := by rw [e0, num4_le4 (by omega)]
  have e2 : (frameL r ++ m).drop 4 = le4 (sumL (textL r)) ++ (textL r ++ m) := by rw [e0]; exact List.drop_left' (le4_len _)
  have e3 : (frameL r ++ m).drop 8 = textL r ++ m := by
    rw [show (8 : Nat) = 4 + 4 from rfl, ← List.drop_drop, e2]
    exact List.drop_left' (le4_len _)
  have e4 : ((frameL r ++ m).drop 8).take (textL r).length = textL r := by rw [e3]; exact List.take_left' rfl
  have e5 : (frameL r ++ m).length = 8 + (textL r).length + m.length := by simp [frameL, le4_len]; omega
  have e6 : (frameL r).length = 8 + (textL r).length := by simp [frameL, le4_len]; omega
  have e7 : cInt (textL r, 0) = ((r.2, 0), r.1) := cInt_putI h.1 r.2
  unfold firstL
  rw [if_neg (by omega), e1, if_neg (by omega), e4, e2, num4_le4 hs, e7, if_neg (by have := h.2; simp; omega), e6]
theorem parseL_frame {r : Rc} (h : Rc.ok r) (m : List UInt8) : parseL (frameL r ++ m) = (r :: (parseL m).1, (frameL r).length + (parseL m).2) := by
  rw [parseL_some (firstL_frame h m), List.drop_left' rfl]
def framesL : List Rc → List UInt8
  | [] => []
  | r :: rs => frameL r ++ framesL rs
theorem parseL_nil : parseL [] = ([], 0) := parseL_none (by simp [firstL])
theorem parseL_frames : ∀ (rs : List Rc) (m : List UInt8), (∀ r, r ∈ rs → Rc.ok r) → parseL (framesL rs ++ m) = (rs ++ (parseL m).1, (framesL rs).length + (parseL m).2)
  | [], m, h => by simp [framesL]
  | r :: rs, m, h => by
    have ih := parseL_frames rs m fun q hq => h q (by simp [hq])
    simp only [framesL, List.append_assoc]
    rw [parseL_frame (h r (by simp)), ih]
    simp [Nat.add_assoc]
end Go.Proofs.YtgnmelnohclpgaaDoor

namespace Go.Proofs.YtgnmelnohclpgaaDoor
open Go Go.RowKit

/-! ### The plain law -/
structure Dk.free (k : Dk) : Prop where
  left : k.left = -1
  down : k.down = false
theorem may_free {k : Dk} (h : k.free) {n : Nat} (hn : n < 4) : k.may (n : Nat) = 0 := by
  unfold Dk.may
  rw [if_neg (by rw [h.down]; decide), if_neg (by omega)]
theorem call_free {k : Dk} (h : k.free) {n : Nat} {op : Int} {b : List UInt8} (hn : n < 4) (hb : (k.l n).length + b.length ≤ 1048576) : k.call op (n : Nat) b = (0, k.doF op n b) := by
  have hc : k.count = (0, k) := by
    unfold Dk.count
    rw [if_neg (by rw [h.left]; decide), if_neg (by rw [h.left]; decide)]
  unfold Dk.call
  rw [if_neg (by simp [may_free h hn]), Int.toNat_natCast, if_neg (by omega), hc, if_pos (.inl rfl)]
theorem lay_free {k : Dk} (h : k.free) (n : Nat) (b : List UInt8) : (k.lay n b).free := ⟨h.left, h.down⟩
theorem keep_free {k : Dk} (h : k.free) (n : Nat) : (k.keep n).free := ⟨h.left, h.down⟩
theorem clear_free {k : Dk} (h : k.free) (n : Nat) : (k.clear n).free := ⟨h.left, h.down⟩
theorem lgAdd_free {k : Dk} {g : Lg} {r : Rc} (h : k.free) (hn : g.f < 4) (hr : r.2.length ≤ 65536) (ht : g.torn = false) (hb : g.bad = false) (hl : (k.l g.f).length + (frameL r).length ≤ 1048576) :
    lgAdd g k r = (0, { g with rs := g.rs ++ [r], n := g.n + (frameL r).length }, (k.lay g.f (frameL r)).keep g.f) := by
  unfold lgAdd
  rw [if_neg (by simp [ht, hb]), if_neg (by omega), call_free h hn hl]
  rw [if_neg (by simp)]
  have e : k.doF 0 g.f (frameL r) = k.lay g.f (frameL r) := by unfold Dk.doF; rw [if_neg (by decide), if_neg (by decide)]
  simp only [e]
  rw [call_free (lay_free h _ _) hn (by simp [Dk.lay, upd_same]; omega)]
  unfold add2
  rw [if_neg (by simp)]
  have e2 : (k.lay g.f (frameL r)).doF 1 g.f [] = (k.lay g.f (frameL r)).keep g.f := by unfold Dk.doF; rw [if_pos rfl]
  simp only [e2]
theorem lgClear_free {k : Dk} {g : Lg} (h : k.free) (hn : g.f < 4) (hl : (k.l g.f).length ≤ 1048576) : lgClear g k = (0, ⟨g.f, [], 0, false, false⟩, k.clear g.f) := by
  unfold lgClear
  rw [call_free h hn (by simpa using hl), if_neg (by simp)]
  have e2 : k.doF 2 g.f [] = k.clear g.f := by unfold Dk.doF; rw [if_neg (by decide), if_pos rfl]
  simp only [e2]
theorem dk0_free : dk0.free := ⟨rfl, rfl⟩
theorem lay_l (k : Dk) (n : Nat) (b : List UInt8) : ((k.lay n b).keep n).l n = k.l n ++ b := by simp [Dk.lay, Dk.keep, upd_same]
theorem clear_l (k : Dk) (n : Nat) : (k.clear n).l n = [] := by simp [Dk.clear, upd_same]

section
variable {M : List Nat} {w0 w : World} {L L1 R : List Item} {v u x : Value} {l m t : List UInt8} {K : Cont} {b d p c : Nat} {k : Dk} {g : Lg} {rs : List Rc} {ss : List (List UInt8)}

theorem St.vwBlk {ty : TypeId} {fz : Nat × Nat} {x : UInt8} (S : St M w0 w (blk b (.cells (bytesCells (x :: l)).toArray ty fz) :: L)) : St M w0 w (vw (.slice (some ⟨b, 0, none⟩) (x :: l).length (x :: l).length) (x :: l) :: L) := by
  obtain ⟨F, O, h1, h2⟩ := S.has
  cases h1 with
  | @cons _ _ fp o F2 O2 k1 k2 k3 k4 =>
    obtain ⟨rfl, rfl, hb⟩ := k1
    refine ⟨S.size, S.old, S.same, _, _, .cons (I := vw _ (x :: l)) (fp := [b]) (o := []) ⟨rfl, rfl, .inr ⟨_, _, rfl, Nat.le_refl _, fun i y hy => ?_⟩⟩ k2 (by simp) (fun r hr => k4 r (by simpa using hr)), fun r hr => h2 r (by simp at hr; simp [hr])⟩
    rw [add_none, cell_of hb]
    have := bytesCells_get hy
    simpa using this
/-- the bytes of a constant text -/
theorem St.lit {vs : List Value} {x : UInt8} {G : Value → World → Prop} (S : St M w0 w L) (he : vs = bytesCells (x :: l)) (hk : ∀ w' v, St M w0 w' (vw v (x :: l) :: L) → G v w') : buildSX 5 1 vs w fun t5 w3 => markX t5 w3 G := by
  subst he
  have e : (bytesCells (x :: l)).flatMap (fun v => v.cells.toList) = bytesCells (x :: l) := by
    rw [bytesCells_map]
    clear hk S
    induction (x :: l) with
    | nil => rfl
    | cons x l ih => simp only [List.map_cons, List.flatMap_cons, ih]; rfl
  refine ⟨fun v hv => ?_, fun b w' h => ?_⟩
  · rw [bytesCells_map] at hv
    obtain ⟨x, _, rfl⟩ := List.mem_map.1 hv
    rfl
  · rw [e] at h
    have S1 := S.newB h
    rw [bytesCells_len]
    refine ⟨_, _, S1.get List.mem_cons_self, fun w2 hst => ?_⟩
    exact hk w2 _ (St.vwBlk (S1.put hst))
theorem frameL_a : (frameL (5, [97])).length = 10 := by decide +kernel
theorem f42 [hE : Err M w0] (S : St M w0 w L) (hk : ∀ w', St M w0 w' L → K (.bool true) w') : callX Tryd.prog 42 [] w K := by
  refine c42 _ _ ?_
  unfold s42
  refine f50 S fun w1 d S1 => ?_
  refine f51 S1 (fun hm => absurd (may_free dk0_free (n := 0) (by omega)) hm) (fun n hn h4 hd hm hl w2 p S2 => ?_)
  obtain rfl : n = 0 := by omega
  clear S1 S
  have S := S2
  clear S2
  have hp0 : lgOpen 0 (dk0.l 0) = ⟨0, [], 0, false, false⟩ := by
    show lgOpen 0 [] = _
    unfold lgOpen
    rw [parseL_nil]
    rfl
  rw [hp0] at S
  (repeat refine Stp.h ?_)
  refine S.lit (x := 97) (l := []) rfl fun w3 v3 S3 => ?_
  clear S
  have S := S3
  clear S3
  haveI := (S.hs.vw (v := v3) (l := [97]) inferInstance).one
  (repeat refine Stp.h ?_)
  have hadd := lgAdd_free (k := dk0) (g := ⟨0, [], 0, false, false⟩) (r := (5, [97])) dk0_free (by show 0 < 4; omega) (by simp) rfl rfl (by rw [frameL_a]; simp [dk0])
  show callX _ 52 [_, .agg (rcC 5 v3).toArray] _ _
  refine f52 (d := d) (r := (5, [97])) (g := ⟨0, [], 0, false, false⟩) (k := dk0) (R := vw v3 [97] :: L) (by simp) (by simp) (by simp) (S.sub inferInstance) fun w4 S4 => ?_
  rw [hadd] at S4 ⊢
  clear S
  have S := S4.perm (.swap _ _ _)
  clear S4
  dsimp only at S ⊢
  have hfr := keep_free (lay_free dk0_free 0 (frameL (5, [97]))) 0
  refine f51 S (fun hm => absurd (may_free hfr (n := 0) (by omega)) hm) (fun n hn h4 hd hm hl w2 p2 S2 => ?_)
  obtain rfl : n = 0 := by omega
  clear S
  have S := S2
  clear S2
  have hp1 : lgOpen 0 (((dk0.lay 0 (frameL (5, [97]))).keep 0).l 0) = ⟨0, [(5, [97])], 10, false, false⟩ := by
    rw [lay_l]
    show lgOpen 0 (frameL (5, [97])) = _
    unfold lgOpen
    have := parseL_frame (r := (5, [97])) ⟨by simp, by simp⟩ []
    rw [List.append_nil, parseL_nil, frameL_a] at this
    rw [this, frameL_a]
    rfl
  rw [hp1] at S
  (repeat refine Stp.h ?_)
  refine f53 (p := p2) (d := d) (g := ⟨0, [(5, [97])], 10, false, false⟩) (by simp) (by simp) S fun w5 ov S5 => ?_
  clear S
  have S := S5
  clear S5
  have ht : txs 5 [(5, [97])] = [[97]] := rfl
  rw [show txs 5 (Lg.mk 0 [(5, [97])] 10 false false).rs = [[97]] from rfl] at S
  have hr := srow_rd S.hs (v := ov) inferInstance
  (repeat refine Stp.h ?_)
  refine brX_dt (by first | omega | simp | decide) ?_
  (repeat refine Stp.h ?_)
  refine brX_dt (by first | omega | simp | decide) ?_
  (repeat refine Stp.h ?_)
  refine brX_dt (by first | omega | simp | decide) ?_
  refine hr.len ?_
  (repeat refine Stp.h ?_)
  refine brX_dt (by first | omega | simp | decide) ?_
  refine hr.at1 (i := 0) (x := str [97]) rfl ?_
  show eqX .str (str [97]) (str [97]) _
  (repeat refine Stp.h ?_)
  refine brX_dt (by first | omega | simp | decide) ?_
  refine f54 (p := p2) (d := d) S fun w6 S6 => ?_
  (repeat refine Stp.h ?_)
  exact hk _ (S6.sub inferInstance)
end
end Go.Proofs.YtgnmelnohclpgaaDoor

