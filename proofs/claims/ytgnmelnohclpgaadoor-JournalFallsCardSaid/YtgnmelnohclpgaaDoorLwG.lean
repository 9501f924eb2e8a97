/- Laws of this seat: arguments that are rows of steps of a log: as pieces that are read. -/
import Derived.Test.YtgnmelnohclpgaaDoorLwF
import Derived.Test.YtgnmelnohclpgaaDoorCpK
set_option linter.unusedVariables false
set_option linter.unusedSimpArgs false
namespace Go.Proofs.YtgnmelnohclpgaaDoor
open Go Go.RowKit

theorem rdR_sps {W : World} {v : Value} (h : Rdb W (.row (.part [.part [.int .i64, .row (.int .u8)], .int .i64, .int .i64])) [v]) :
    ∃ (ss : List Sp) (bs : List Value), bs.length = ss.length ∧ RdR W 4 v (spCells bs ss) ∧ (∀ s, s ∈ ss → -9223372036854775808 ≤ s.1.1 ∧ s.1.1 < 9223372036854775808) ∧ St [] W W (rdsp bs v ss) := by
  have go : ∀ (els : List (List Value)), (∀ c, c ∈ els → Rdb W (.part [.part [.int .i64, .row (.int .u8)], .int .i64, .int .i64]) c) →
      ∃ (ss : List Sp) (bs : List Value), bs.length = ss.length ∧ els = spCells bs ss ∧ (∀ s, s ∈ ss → -9223372036854775808 ≤ s.1.1 ∧ s.1.1 < 9223372036854775808) ∧ ∀ I ∈ vws bs (ss.map (·.1)), ∃ fp, I.P W fp [] := by
    intro els
    induction els with
    | nil => intro _; exact ⟨[], [], rfl, rfl, by simp, by simp [vws]⟩
    | cons c els ih =>
      intro h
      obtain ⟨ss, bs, h1, h2, h3, h4⟩ := ih fun c hc => h c (by simp [hc])
      have hc := h c (by simp)
      cases hc with
      | part hc =>
        cases hc with
        | cons g1 g2 =>
          cases g1 with
          | part g1 =>
            obtain ⟨r, x, rfl, hr, hx⟩ := rdb_rec g1
            cases g2 with
            | cons g2 g3 =>
              cases g2 with
              | @int _ n2 _ _ =>
                cases g3 with
                | cons g3 g4 =>
                  cases g3 with
                  | @int _ n3 _ _ =>
                    cases g4
                    refine ⟨(r, n2, n3) :: ss, x :: bs, by simp [h1], by rw [h2]; rfl, ?_, ?_⟩
                    · intro q hq
                      rcases List.mem_cons.1 hq with rfl | hq
                      · exact hr
                      · exact h3 q hq
                    · intro I hI
                      rcases List.mem_cons.1 hI with rfl | hI
                      · exact ⟨_, rfl, rfl, hx⟩
                      · exact h4 I hI
  have mk : ∀ (ss : List Sp) (bs : List Value), (∀ I ∈ vws bs (ss.map (·.1)), ∃ fp, I.P W fp []) → RdR W 4 v (spCells bs ss) → St [] W W (rdsp bs v ss) := by
    intro ss bs h h2
    have := (St.begin W).knAll (rdsp bs v ss) fun I hI => by
      rcases List.mem_append.1 hI with hI | hI
      · exact h I hI
      · obtain rfl : I = vrow 4 v (spCells bs ss) := by simpa using hI
        exact ⟨_, rfl, rfl, h2⟩
    simpa using this
  cases h with
  | nil => exact ⟨[], [], rfl, .inl ⟨rfl, rfl⟩, by simp, mk [] [] (by simp [vws]) (.inl ⟨rfl, rfl⟩)⟩
  | @row _ a len cap els h1 h2 h3 h4 h5 h6 =>
    obtain ⟨ss, bs, g1, rfl, g3, g4⟩ := go els h5
    have hr : RdR W 4 (.slice (some a) len cap) (spCells bs ss) := .inr ⟨a, cap, by rw [h3], by omega, h4, fun i e he j x hx => h6 i e he j x hx⟩
    exact ⟨ss, bs, g1, hr, g3, mk ss bs g4 hr⟩
end Go.Proofs.YtgnmelnohclpgaaDoor
