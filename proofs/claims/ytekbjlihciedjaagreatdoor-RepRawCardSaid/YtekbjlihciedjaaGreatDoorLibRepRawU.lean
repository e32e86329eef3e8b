/-
  Own library of this claim, part 21: texts one behind the other (RkQ7).
-/
import Derived.Test.YtekbjlihciedjaaGreatDoorLibRepRawT
set_option linter.unusedVariables false
set_option linter.unusedSimpArgs false

namespace Go.Proofs.YtekbjlihciedjaaGreatDoor.repRaw
open Go Go.ChangeShapes Go.WideShapes Go.ChangeAt Go.RowKit Go.Abs
theorem x_looks : true = Tryz.pinned.checked.prog.looks [] := by kernel_rfl
end Go.Proofs.YtekbjlihciedjaaGreatDoor.repRaw
