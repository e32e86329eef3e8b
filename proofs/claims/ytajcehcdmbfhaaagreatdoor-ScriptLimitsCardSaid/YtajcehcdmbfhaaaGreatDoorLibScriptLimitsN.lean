/-
  Own library of this claim, part 28: texts one behind the other (SmQ6).
-/
import Derived.Test.YtajcehcdmbfhaaaGreatDoorRows
import Derived.Test.YtajcehcdmbfhaaaGreatDoorCards
import Derived.ProofKit
import Derived.OpenShut
import Derived.LaidMore
import Derived.Lay
import Derived.SevenTiedAt
import Derived.Stop.Joined
set_option linter.unusedVariables false
set_option linter.unusedSimpArgs false

/-
  Closed facts of the row.
-/








namespace Go.Proofs.YtajcehcdmbfhaaaGreatDoor.scriptLimits
open Go Go.ChangeShapes Go.WideShapes Go.ChangeAt Go.RowKit
theorem x_wf : Rows.scriptLimitsRow.wfByText (OpenSpec.ofChange Rows.scriptLimitsSpec) = true := by kernel_rfl
theorem x_main : Tryz.pinned.checked.prog.mainIs = some (true, "96e640b9843701369e490a590cf312bdbcd88ca10b627e9418b14bb2027a2670".toList) := by kernel_rfl
end Go.Proofs.YtajcehcdmbfhaaaGreatDoor.scriptLimits
