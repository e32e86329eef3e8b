/-
  Own library of this claim, part 15: texts one behind the other (RkQ1).
-/
import Derived.Test.YtekbjlihciedjaaGreatDoorLibRepRawN
set_option linter.unusedVariables false
set_option linter.unusedSimpArgs false

namespace Go.Proofs.YtekbjlihciedjaaGreatDoor.repRaw
open Go Go.ChangeShapes Go.WideShapes Go.ChangeAt Go.RowKit Go.Abs
theorem q9 : ((Rows.repRawRow.inPlace == Tryz.pinned.checked.prog.inPlace 3)) = true := by kernel_rfl
end Go.Proofs.YtekbjlihciedjaaGreatDoor.repRaw
