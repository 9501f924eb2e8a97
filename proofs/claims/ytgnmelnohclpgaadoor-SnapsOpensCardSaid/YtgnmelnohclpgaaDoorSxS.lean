/- Own framework, part S: the program at hand takes its statements' parts in any order. -/
import Derived.Test.YtgnmelnohclpgaaDoorSxT
import Derived.Test.YtgnmelnohclpgaaDoorProg
set_option linter.unusedVariables false
namespace Go.Proofs.YtgnmelnohclpgaaDoor
open Go

theorem mixed : Tryd.prog.follows .mixedOrders = true := by kernel_rfl

end Go.Proofs.YtgnmelnohclpgaaDoor
