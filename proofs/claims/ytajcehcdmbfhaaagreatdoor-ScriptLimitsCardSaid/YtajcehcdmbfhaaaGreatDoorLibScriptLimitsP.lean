/-
  Own library of this claim, part 30: texts one behind the other (SmQ8).
-/
import Derived.Test.YtajcehcdmbfhaaaGreatDoorRows
import Derived.Test.YtajcehcdmbfhaaaGreatDoorCards
import Derived.ProofKit
import Derived.OpenShut
import Derived.LaidMore
import Derived.Lay
import Derived.SevenTiedAt
import Derived.Stop.Joined
set_option linter.unusedVariables false
set_option linter.unusedSimpArgs false

/-
  Closed facts of the row.
-/








namespace Go.Proofs.YtajcehcdmbfhaaaGreatDoor.scriptLimits
open Go Go.ChangeShapes Go.WideShapes Go.ChangeAt Go.RowKit
theorem x_goes1 : ((Tryz.pinned.checked.prog.closure 3).any fun g => (Tryz.pinned.checked.prog.funcs[g]?).any Func.goes) = false := by kernel_rfl
theorem x_goes2 : (Tryz.pinned.checked.prog.funcs.any Func.goes) = false := by kernel_rfl
end Go.Proofs.YtajcehcdmbfhaaaGreatDoor.scriptLimits
