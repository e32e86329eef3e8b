/-
  Own library of this claim, part 20: texts one behind the other (RkQ7).
-/
import Derived.Test.YtnhomjhfaoipmaaGreatDoorLibRepKnownS

namespace Go.Proofs.YtnhomjhfaoipmaaGreatDoor.repKnown
open Go Go.ChangeShapes Go.WideShapes Go.ChangeAt Go.RowKit Go.Abs
theorem x_looks : true = Tryz.pinned.checked.prog.looks [] := by kernel_rfl
end Go.Proofs.YtnhomjhfaoipmaaGreatDoor.repKnown
