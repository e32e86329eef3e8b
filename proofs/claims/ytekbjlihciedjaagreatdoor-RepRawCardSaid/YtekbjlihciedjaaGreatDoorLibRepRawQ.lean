/-
  Own library of this claim, part 17: texts one behind the other (RkQ3).
-/
import Derived.Test.YtekbjlihciedjaaGreatDoorLibRepRawP
set_option linter.unusedVariables false
set_option linter.unusedSimpArgs false

namespace Go.Proofs.YtekbjlihciedjaaGreatDoor.repRaw
open Go Go.ChangeShapes Go.WideShapes Go.ChangeAt Go.RowKit Go.Abs
theorem q11 : ((Rows.repRawRow.recurses == Tryz.pinned.checked.prog.recurses 3)) = true := by kernel_rfl
end Go.Proofs.YtekbjlihciedjaaGreatDoor.repRaw
