/-
  Own library of this claim, part 20: texts one behind the other (RkQ6).
-/
import Derived.Test.YtekbjlihciedjaaGreatDoorLibRepRawS
set_option linter.unusedVariables false
set_option linter.unusedSimpArgs false

namespace Go.Proofs.YtekbjlihciedjaaGreatDoor.repRaw
open Go Go.ChangeShapes Go.WideShapes Go.ChangeAt Go.RowKit Go.Abs
theorem x_wf : Rows.repRawRow.wfByText (OpenSpec.ofChange Rows.repRawSpec) = true := by kernel_rfl
theorem x_main : Tryz.pinned.checked.prog.mainIs = some (true, "bc57e41f13c67136db8ffee20bd3d9e64fd37f09e361d63bfb1478388933ba2d".toList) := by kernel_rfl
end Go.Proofs.YtekbjlihciedjaaGreatDoor.repRaw
