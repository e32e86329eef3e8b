/-
  Own library of this claim, part 16: texts one behind the other (RkQ3).
-/
import Derived.Test.YtnhomjhfaoipmaaGreatDoorLibRepKnownO

namespace Go.Proofs.YtnhomjhfaoipmaaGreatDoor.repKnown
open Go Go.ChangeShapes Go.WideShapes Go.ChangeAt Go.RowKit Go.Abs
theorem q11 : ((Rows.repKnownRow.recurses == Tryz.pinned.checked.prog.recurses 3)) = true := by kernel_rfl
end Go.Proofs.YtnhomjhfaoipmaaGreatDoor.repKnown
