/- JournalFalls: the plain law. -/
import Derived.Test.YtgnmelnohclpgaaDoorCpI
import Derived.Test.YtgnmelnohclpgaaDoorCpJ
set_option linter.unusedVariables false
set_option linter.unusedSimpArgs false
namespace Go.Proofs.YtgnmelnohclpgaaDoor
open Go Go.RowKit

/-! ### The plain law -/
theorem doF_s (k : Dk) (op : Int) (i : Nat) (b : List UInt8) : (k.doF op i b).left = k.left ∧ (k.doF op i b).down = k.down := by
  unfold Dk.doF
  split
  · exact ⟨rfl, rfl⟩
  · split <;> exact ⟨rfl, rfl⟩
theorem call_armed {k : Dk} (hd : k.down = false) {n : Nat} {op : Int} {b : List UInt8} (hn : n < 4) (hb : (k.l n).length + b.length ≤ 1048576) :
    k.call op (n : Nat) b = if k.left = 0 then (17, if op = 0 then ({ k with left := -1, down := true } : Dk).doF op n b else { k with left := -1, down := true }) else (0, ({ k with left := if 0 < k.left then k.left - 1 else k.left } : Dk).doF op n b) := by
  have hm : k.may (n : Nat) = 0 := by
    unfold Dk.may
    rw [if_neg (by rw [hd]; decide), if_neg (by omega)]
  unfold Dk.call
  rw [if_neg (by simp [hm]), Int.toNat_natCast, if_neg (by omega)]
  unfold Dk.count
  by_cases h0 : k.left = 0
  · rw [if_pos h0, if_pos h0]
    by_cases ho : op = 0
    · rw [if_pos (.inr ho), if_pos ho]
    · rw [if_neg (by simp [ho]), if_neg ho]
  · rw [if_neg h0, if_neg h0]
    by_cases hp : 0 < k.left
    · rw [if_pos hp, if_pos hp, if_pos (.inl rfl)]
    · rw [if_neg hp, if_neg hp, if_pos (.inl rfl)]
theorem lay_doF (k : Dk) (i : Nat) (b : List UInt8) : k.doF 0 i b = k.lay i b := by unfold Dk.doF; rw [if_neg (by decide), if_neg (by decide)]
theorem keep_doF (k : Dk) (i : Nat) (b : List UInt8) : k.doF 1 i b = k.keep i := by unfold Dk.doF; rw [if_pos rfl]
theorem add_armed {k : Dk} {g : Lg} {r : Rc} (hd : k.down = false) (hf : g.f < 4) (hr : r.2.length ≤ 65536) (ht : g.torn = false) (hb : g.bad = false) (hl : (k.l g.f).length + (frameL r).length ≤ 1048576) :
    ((lgAdd g k r).1 = 0 ∧ (lgAdd g k r).2.1 = { g with rs := g.rs ++ [r], n := g.n + (frameL r).length } ∧ (lgAdd g k r).2.2.down = false ∧ (lgAdd g k r).2.2.l = upd k.l g.f (k.l g.f ++ frameL r) ∧ (lgAdd g k r).2.2.s = upd k.s g.f (k.l g.f ++ frameL r).length) ∨
    ((lgAdd g k r).1 = 17 ∧ (lgAdd g k r).2.1 = { g with bad := true } ∧ (lgAdd g k r).2.2.l = upd k.l g.f (k.l g.f ++ frameL r) ∧ (lgAdd g k r).2.2.s = k.s) := by
  unfold lgAdd
  rw [if_neg (by simp [ht, hb]), if_neg (by omega), call_armed hd hf hl]
  by_cases h0 : k.left = 0
  · rw [if_pos h0, if_pos rfl, lay_doF, if_pos (by simp)]
    unfold add2
    rw [if_pos (by simp)]
    exact .inr ⟨rfl, rfl, rfl, rfl⟩
  · rw [if_neg h0, lay_doF, if_neg (by simp)]
    dsimp only
    generalize hk1 : (if 0 < k.left then k.left - 1 else k.left) = n1
    rw [call_armed (k := ({ k with left := n1 } : Dk).lay g.f (frameL r)) hd hf (by simp [Dk.lay, upd_same]; omega)]
    by_cases h1 : (({ k with left := n1 } : Dk).lay g.f (frameL r)).left = 0
    · rw [if_pos h1, if_neg (by decide)]
      unfold add2
      rw [if_pos (by simp)]
      exact .inr ⟨rfl, rfl, rfl, rfl⟩
    · rw [if_neg h1, keep_doF]
      unfold add2
      rw [if_neg (by simp)]
      refine .inl ⟨rfl, rfl, hd, rfl, ?_⟩
      simp [Dk.keep, Dk.lay, upd_same]
theorem add_bad {k : Dk} {g : Lg} {r : Rc} (h : g.torn = true ∨ g.bad = true) : lgAdd g k r = (16, g, k) := by unfold lgAdd; rw [if_pos h]
theorem upd_upd {α : Type} (f : Nat → α) (i : Nat) (x y : α) : upd (upd f i x) i y = upd f i y := by funext j; unfold upd; split <;> rfl
/-- what a log that is opened behind a fall has -/
theorem parse_fall {rs : List Rc} {r : Rc} (h : ∀ q, q ∈ rs → Rc.ok q) (hr : Rc.ok r) {z : Nat} (hz : z ≤ (frameL r).length) :
    (z = (frameL r).length ∧ framesL rs ++ (frameL r).take z = framesL (rs ++ [r]) ∧ parseL (framesL rs ++ (frameL r).take z) = (rs ++ [r], (framesL (rs ++ [r])).length)) ∨
    (z < (frameL r).length ∧ parseL (framesL rs ++ (frameL r).take z) = (rs, (framesL rs).length)) := by
  by_cases e : z = (frameL r).length
  · subst e
    have e1 : framesL rs ++ (frameL r).take (frameL r).length = framesL (rs ++ [r]) := by rw [List.take_length, framesL_app]; simp [framesL]
    refine .inl ⟨rfl, e1, ?_⟩
    rw [e1]
    have := parseL_frames (rs ++ [r]) [] fun q hq => by
      rcases List.mem_append.1 hq with hq | hq
      · exact h q hq
      · obtain rfl : q = r := by simpa using hq
        exact hr
    rw [List.append_nil, parseL_nil] at this
    simpa using this
  · refine .inr ⟨by omega, ?_⟩
    rw [parseL_frames rs _ h]
    have : parseL ((frameL r).take z) = ([], 0) := by
      refine parseL_none ?_
      have := firstL_short hr [] (c := z) (by omega)
      rwa [List.append_nil] at this
    rw [this]
    simp

/-! ### The steps in memory -/
abbrev Sp := Rc × Int × Int
def spC (x : Value) (s : Sp) : List Value := [.int .i64 s.1.1, x, .int .i64 s.2.1, .int .i64 s.2.2]
def spCells (bs : List Value) (ss : List Sp) : List (List Value) := List.zipWith spC bs ss
def rdsp (bs : List Value) (v : Value) (ss : List Sp) : List Item := vws bs (ss.map (·.1)) ++ [vrow 4 v (spCells bs ss)]
theorem rdsp_in {bs : List Value} {v : Value} {ss : List Sp} (A : List Item) : InI (vrow 4 v) (spCells bs ss) (A ++ rdsp bs v ss) := ⟨List.mem_append_right _ (List.mem_append_right _ (by simp))⟩
theorem rdsp_vw {bs : List Value} {v x : Value} {ss : List Sp} {s : Sp} (A : List Item) (h : vw x s.1.2 ∈ vws bs (ss.map (·.1))) : InI (vw x) s.1.2 (A ++ rdsp bs v ss) := ⟨List.mem_append_right _ (List.mem_append_left _ h)⟩
theorem sp_mem {bs : List Value} {ss : List Sp} {i : Nat} {s : Sp} (hb : bs.length = ss.length) (h : ss[i]? = some s) : ∃ x, vw x s.1.2 ∈ vws bs (ss.map (·.1)) ∧ (spCells bs ss)[i]? = some (spC x s) := by
  have hi := (List.getElem?_eq_some_iff.1 h).1
  obtain ⟨x, hx⟩ : ∃ x, bs[i]? = some x := ⟨bs[i], List.getElem?_eq_getElem (by omega)⟩
  refine ⟨x, List.mem_iff_getElem?.2 ⟨i, ?_⟩, ?_⟩
  · unfold vws
    rw [List.getElem?_zipWith, hx, List.getElem?_map, h]
    rfl
  · unfold spCells
    rw [List.getElem?_zipWith, hx, h]
theorem spCells_len {bs : List Value} {ss : List Sp} (h : bs.length = ss.length) : (spCells bs ss).length = ss.length := by simp [spCells, h]
end Go.Proofs.YtgnmelnohclpgaaDoor
