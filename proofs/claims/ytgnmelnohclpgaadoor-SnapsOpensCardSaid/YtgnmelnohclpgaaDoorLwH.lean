/- Laws of this seat: arguments that are rows of acts on a disk: as pieces that are read. -/
import Derived.Test.YtgnmelnohclpgaaDoorLwF
import Derived.Test.YtgnmelnohclpgaaDoorCpS
set_option linter.unusedVariables false
set_option linter.unusedSimpArgs false
namespace Go.Proofs.YtgnmelnohclpgaaDoor
open Go Go.RowKit

theorem rdR_acts {W : World} {v : Value} (h : Rdb W (.row (.part [.int .i64, .int .i64, .int .i64, .row (.int .u8), .part [.int .i64, .int .i64, .int .i64, .int .i64]])) [v]) :
    ∃ cs : List (List Value), RdR W 8 v cs ∧ ∀ e, e ∈ cs → AcOk W e := by
  have go : ∀ c, Rdb W (.part [.int .i64, .int .i64, .int .i64, .row (.int .u8), .part [.int .i64, .int .i64, .int .i64, .int .i64]]) c → AcOk W c := by
    intro c hc
    cases hc with
    | part hc =>
      cases hc with
      | cons g1 g2 =>
        cases g1 with
        | @int _ n1 _ _ =>
          cases g2 with
          | cons g3 g4 =>
            cases g3 with
            | @int _ n2 _ _ =>
              cases g4 with
              | cons g5 g6 =>
                cases g5 with
                | @int _ n3 _ _ =>
                  cases g6 with
                  | cons g7 g8 =>
                    rename_i c4 cs4
                    obtain ⟨y, rfl⟩ : ∃ y, [y] = c4 := by
                      cases g7 <;> exact ⟨_, rfl⟩
                    obtain ⟨b, hb⟩ := rdB_arg g7
                    exact ⟨n1, n2, y, b, rfl, rfl, rfl, hb⟩
  cases h with
  | nil => exact ⟨[], .inl ⟨rfl, rfl⟩, by simp⟩
  | @row _ a len cap els h1 h2 h3 h4 h5 h6 =>
    exact ⟨els, .inr ⟨a, cap, by rw [h3], by omega, h4, fun i e he j x hx => h6 i e he j x hx⟩, fun e he => go e (h5 e he)⟩
end Go.Proofs.YtgnmelnohclpgaaDoor
