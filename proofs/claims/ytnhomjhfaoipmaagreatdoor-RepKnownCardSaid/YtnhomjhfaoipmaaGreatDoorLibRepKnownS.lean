/-
  Own library of this claim, part 19: texts one behind the other (RkQ6).
-/
import Derived.Test.YtnhomjhfaoipmaaGreatDoorLibRepKnownR

namespace Go.Proofs.YtnhomjhfaoipmaaGreatDoor.repKnown
open Go Go.ChangeShapes Go.WideShapes Go.ChangeAt Go.RowKit Go.Abs
theorem x_wf : Rows.repKnownRow.wfByText (OpenSpec.ofChange Rows.repKnownSpec) = true := by kernel_rfl
theorem x_main : Tryz.pinned.checked.prog.mainIs = some (true, "8b55b9114315388311dbac99c46c548bf02a823216e6ff642fc715ec6a24bd2e".toList) := by kernel_rfl
end Go.Proofs.YtnhomjhfaoipmaaGreatDoor.repKnown
