/-
  Own library of this claim, part 24: texts one behind the other (SmQ2).
-/
import Derived.Test.YtajcehcdmbfhaaaGreatDoorRows
import Derived.Test.YtajcehcdmbfhaaaGreatDoorCards
import Derived.ProofKit
import Derived.OpenShut
import Derived.LaidMore
import Derived.Lay
import Derived.SevenTiedAt
import Derived.Stop.Joined
set_option linter.unusedVariables false
set_option linter.unusedSimpArgs false

/-
  Closed facts of the row.
-/








namespace Go.Proofs.YtajcehcdmbfhaaaGreatDoor.scriptLimits
open Go Go.ChangeShapes Go.WideShapes Go.ChangeAt Go.RowKit
theorem q10 : ((Rows.scriptLimitsRow.unfollowed == Tryz.pinned.checked.prog.unfollowed 3)) = true := by kernel_rfl
end Go.Proofs.YtajcehcdmbfhaaaGreatDoor.scriptLimits
