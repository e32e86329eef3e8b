/-
  Own library of this claim, part 15: texts one behind the other (RkQ2).
-/
import Derived.Test.YtnhomjhfaoipmaaGreatDoorLibRepKnownN

namespace Go.Proofs.YtnhomjhfaoipmaaGreatDoor.repKnown
open Go Go.ChangeShapes Go.WideShapes Go.ChangeAt Go.RowKit Go.Abs
theorem q10 : ((Rows.repKnownRow.unfollowed == Tryz.pinned.checked.prog.unfollowed 3)) = true := by kernel_rfl
end Go.Proofs.YtnhomjhfaoipmaaGreatDoor.repKnown
