/- Laws of this seat: the closed facts that every row asks, those on the program alone proved once. -/
import Derived.Test.YtgnmelnohclpgaaDoorLwB
import Derived.JoinedOf
set_option linter.unusedVariables false
namespace Go.Proofs.YtgnmelnohclpgaaDoor
open Go

theorem andI {a b : Bool} (h1 : a = true) (h2 : b = true) : (a && b) = true := by rw [h1, h2]; rfl
theorem fMay : Tryd.checked.prog.mayEnter = true := by kernel_rfl
theorem fLift0 : (Rows.fleetNobodyRow.lifted == Tryd.checked.prog.liftsFinal) = true := by kernel_rfl
theorem fMake0 : (Tryd.checked.prog.make == some Rows.fleetNobodyRow.make) = true := by kernel_rfl
theorem fLaid : laidOutB Tryd.checked.prog = true := by kernel_rfl
theorem fLift {c : OpenClaim} (h : c.lifted = Rows.fleetNobodyRow.lifted) : (c.lifted == Tryd.checked.prog.liftsFinal) = true := by rw [h]; exact fLift0
theorem fMake {c : OpenClaim} (h : c.make = Rows.fleetNobodyRow.make) : (Tryd.checked.prog.make == some c.make) = true := by rw [h]; exact fMake0
end Go.Proofs.YtgnmelnohclpgaaDoor
