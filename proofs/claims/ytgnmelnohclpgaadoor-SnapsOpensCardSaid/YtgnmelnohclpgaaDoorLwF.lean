/- Laws of this seat: arguments that are rows of records: as pieces that are read. -/
import Derived.Test.YtgnmelnohclpgaaDoorLwD
import Derived.Test.YtgnmelnohclpgaaDoorCpH
set_option linter.unusedVariables false
set_option linter.unusedSimpArgs false
namespace Go.Proofs.YtgnmelnohclpgaaDoor
open Go Go.RowKit

theorem rdR_recs {W : World} {v : Value} (h : Rdb W (.row (.part [.int .i64, .row (.int .u8)])) [v]) :
    ∃ (rs : List Rc) (bs : List Value), bs.length = rs.length ∧ RdR W 2 v (rcCells bs rs) ∧ (∀ r, r ∈ rs → -9223372036854775808 ≤ r.1 ∧ r.1 < 9223372036854775808) ∧ St [] W W (rdrs bs v rs) := by
  have go : ∀ (els : List (List Value)), (∀ c, c ∈ els → Rdb W (.part [.int .i64, .row (.int .u8)]) c) →
      ∃ (rs : List Rc) (bs : List Value), bs.length = rs.length ∧ els = rcCells bs rs ∧ (∀ r, r ∈ rs → -9223372036854775808 ≤ r.1 ∧ r.1 < 9223372036854775808) ∧ ∀ I ∈ vws bs rs, ∃ fp, I.P W fp [] := by
    intro els
    induction els with
    | nil => intro _; exact ⟨[], [], rfl, rfl, by simp, by simp [vws]⟩
    | cons c els ih =>
      intro h
      obtain ⟨rs, bs, h1, h2, h3, h4⟩ := ih fun c hc => h c (by simp [hc])
      have hc := h c (by simp)
      cases hc with
      | part hc =>
        obtain ⟨r, x, rfl, hr, hx⟩ := rdb_rec hc
        refine ⟨r :: rs, x :: bs, by simp [h1], by rw [h2]; rfl, ?_, ?_⟩
        · intro q hq
          rcases List.mem_cons.1 hq with rfl | hq
          · exact hr
          · exact h3 q hq
        · intro I hI
          rcases List.mem_cons.1 hI with rfl | hI
          · exact ⟨_, rfl, rfl, hx⟩
          · exact h4 I hI
  have mk : ∀ (rs : List Rc) (bs : List Value), (∀ I ∈ vws bs rs, ∃ fp, I.P W fp []) → RdR W 2 v (rcCells bs rs) → St [] W W (rdrs bs v rs) := by
    intro rs bs h h2
    have := (St.begin W).knAll (rdrs bs v rs) fun I hI => by
      rcases List.mem_append.1 hI with hI | hI
      · exact h I hI
      · obtain rfl : I = vrow 2 v (rcCells bs rs) := by simpa using hI
        exact ⟨_, rfl, rfl, h2⟩
    simpa using this
  cases h with
  | nil => exact ⟨[], [], rfl, .inl ⟨rfl, rfl⟩, by simp, mk [] [] (by simp [vws]) (.inl ⟨rfl, rfl⟩)⟩
  | @row _ a len cap els h1 h2 h3 h4 h5 h6 =>
    obtain ⟨rs, bs, g1, rfl, g3, g4⟩ := go els h5
    have hr : RdR W 2 (.slice (some a) len cap) (rcCells bs rs) := .inr ⟨a, cap, by rw [h3], by omega, h4, fun i e he j x hx => h6 i e he j x hx⟩
    exact ⟨rs, bs, g1, hr, g3, mk rs bs g4 hr⟩
theorem rdb_int {W : World} {k : IntKind} {v : Value} (h : Rdb W (.int k) [v]) : ∃ n, v = .int k n ∧ k.min ≤ n ∧ n ≤ k.max := by
  cases h with
  | @int _ n h1 h2 => exact ⟨n, rfl, h1, h2⟩
theorem rdb_i64 {W : World} {v : Value} (h : Rdb W (.int .i64) [v]) : ∃ n, v = .int .i64 n ∧ -9223372036854775808 ≤ n ∧ n < 9223372036854775808 := by
  obtain ⟨n, h1, h2, h3⟩ := rdb_int h
  have h2 : -9223372036854775808 ≤ n := h2
  have h3 : n ≤ 9223372036854775807 := h3
  exact ⟨n, h1, h2, by omega⟩
end Go.Proofs.YtgnmelnohclpgaaDoor
