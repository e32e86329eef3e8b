/-
  Own library of this claim, part 14: texts one behind the other (RkQ1).
-/
import Derived.Test.YtnhomjhfaoipmaaGreatDoorLibRepKnownM

namespace Go.Proofs.YtnhomjhfaoipmaaGreatDoor.repKnown
open Go Go.ChangeShapes Go.WideShapes Go.ChangeAt Go.RowKit Go.Abs
theorem q9 : ((Rows.repKnownRow.inPlace == Tryz.pinned.checked.prog.inPlace 3)) = true := by kernel_rfl
end Go.Proofs.YtnhomjhfaoipmaaGreatDoor.repKnown
