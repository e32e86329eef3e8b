/-
  Own library of this claim, part 20: texts one behind the other.
-/
import Derived.Test.YtjfgldopgijonaaGreatDoorLibFleetKnownS
set_option maxRecDepth 100000
set_option maxHeartbeats 8000000
set_option linter.unusedVariables false
set_option linter.unusedSimpArgs false
namespace Go.Proofs.YtjfgldopgijonaaGreatDoor.fleetKnown
open Go Go.ChangeShapes Go.WideShapes Go.ChangeAt Go.RowKit Go.Abs
theorem x_wf : Rows.fleetKnownRow.wfByText (OpenSpec.ofChange Rows.fleetKnownSpec) = true := by kernel_rfl
theorem x_main : Tryz.pinned.checked.prog.mainIs = some (true, "02aa526207f7923670ccafc083d154b90199447efec9849a3ad3c3d61beebe8b".toList) := by kernel_rfl
end Go.Proofs.YtjfgldopgijonaaGreatDoor.fleetKnown
