/-
  Own library of this claim, part 22: texts one behind the other.
-/
import Derived.Test.YtjfgldopgijonaaGreatDoorLibFleetKnownU
set_option maxRecDepth 100000
set_option maxHeartbeats 8000000
set_option linter.unusedVariables false
set_option linter.unusedSimpArgs false
namespace Go.Proofs.YtjfgldopgijonaaGreatDoor.fleetKnown
open Go Go.ChangeShapes Go.WideShapes Go.ChangeAt Go.RowKit Go.Abs
theorem x_goes1 : ((Tryz.pinned.checked.prog.closure 3).any fun g => (Tryz.pinned.checked.prog.funcs[g]?).any Func.goes) = false := by kernel_rfl
theorem x_goes2 : (Tryz.pinned.checked.prog.funcs.any Func.goes) = false := by kernel_rfl
end Go.Proofs.YtjfgldopgijonaaGreatDoor.fleetKnown
