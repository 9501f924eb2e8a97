/- What errors.errorType holds. -/
import Derived.Test.YtgnmelnohclpgaaDoorSxU
set_option linter.unusedVariables false
namespace Go.Proofs.YtgnmelnohclpgaaDoor
open Go
/-- what errors.errorType holds -/
def ErrW (w : World) : Prop := w.cell? ⟨0, 0, none⟩ = some (.iface 260 (.agg #[.pointer (some ⟨2, 215, none⟩)]))
theorem ErrW.ext {w w' : World} (h : ErrW w) (x : Ext w w') : ErrW w' := x.cell h
theorem ErrW.st {M : List Nat} {w0 w : World} {l : List Item} (h : ErrW w0) (S : St M w0 w l) (hM : 0 ∉ M) : ErrW w := by
  unfold ErrW World.cell? at *
  have hlt : 0 < w0.heap.size := by
    apply Nat.lt_of_not_le
    intro hle
    have : w0.heap[0]? = none := Array.getElem?_eq_none hle
    simp [this] at h
  simp only [S.old 0 hlt hM]
  exact h
end Go.Proofs.YtgnmelnohclpgaaDoor
