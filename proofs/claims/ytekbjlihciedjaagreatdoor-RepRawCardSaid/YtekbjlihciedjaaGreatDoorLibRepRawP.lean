/-
  Own library of this claim, part 16: texts one behind the other (RkQ2).
-/
import Derived.Test.YtekbjlihciedjaaGreatDoorLibRepRawO
set_option linter.unusedVariables false
set_option linter.unusedSimpArgs false

namespace Go.Proofs.YtekbjlihciedjaaGreatDoor.repRaw
open Go Go.ChangeShapes Go.WideShapes Go.ChangeAt Go.RowKit Go.Abs
theorem q10 : ((Rows.repRawRow.unfollowed == Tryz.pinned.checked.prog.unfollowed 3)) = true := by kernel_rfl
end Go.Proofs.YtekbjlihciedjaaGreatDoor.repRaw
