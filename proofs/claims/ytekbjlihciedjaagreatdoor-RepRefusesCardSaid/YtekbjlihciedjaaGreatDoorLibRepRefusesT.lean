/-
  Own library of this claim, part 20: texts one behind the other.
-/
import Derived.Test.YtekbjlihciedjaaGreatDoorLibRepRefusesS
set_option maxRecDepth 100000
set_option maxHeartbeats 8000000
set_option linter.unusedVariables false
set_option linter.unusedSimpArgs false
namespace Go.Proofs.YtekbjlihciedjaaGreatDoor.repRefuses
open Go Go.ChangeShapes Go.WideShapes Go.ChangeAt Go.RowKit Go.Abs
theorem x_wf : Rows.repRefusesRow.wfByText (OpenSpec.ofChange Rows.repRefusesSpec) = true := by kernel_rfl
theorem x_main : Tryz.pinned.checked.prog.mainIs = some (true, "bc57e41f13c67136db8ffee20bd3d9e64fd37f09e361d63bfb1478388933ba2d".toList) := by kernel_rfl
end Go.Proofs.YtekbjlihciedjaaGreatDoor.repRefuses
