/-
  Own library of this claim, part 21: texts one behind the other (RkQ8).
-/
import Derived.Test.YtnhomjhfaoipmaaGreatDoorLibRepKnownT

namespace Go.Proofs.YtnhomjhfaoipmaaGreatDoor.repKnown
open Go Go.ChangeShapes Go.WideShapes Go.ChangeAt Go.RowKit Go.Abs
theorem x_goes1 : ((Tryz.pinned.checked.prog.closure 3).any fun g => (Tryz.pinned.checked.prog.funcs[g]?).any Func.goes) = false := by kernel_rfl
theorem x_goes2 : (Tryz.pinned.checked.prog.funcs.any Func.goes) = false := by kernel_rfl
end Go.Proofs.YtnhomjhfaoipmaaGreatDoor.repKnown
