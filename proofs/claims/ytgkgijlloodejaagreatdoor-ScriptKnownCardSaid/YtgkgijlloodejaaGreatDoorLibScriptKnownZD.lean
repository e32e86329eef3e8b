/-
  Own library of this claim, part 30: texts one behind the other (SnQ6).
-/
import Derived.Test.YtgkgijlloodejaaGreatDoorRows
import Derived.Test.YtgkgijlloodejaaGreatDoorCards
import Derived.ProofKit
import Derived.OpenShut
import Derived.LaidMore
import Derived.Lay
import Derived.SevenTiedAt
import Derived.Stop.Joined

/-
  Closed facts of the row.
-/

namespace Go.Proofs.YtgkgijlloodejaaGreatDoor.scriptKnown
open Go Go.ChangeShapes Go.WideShapes Go.ChangeAt Go.RowKit
theorem x_wf : Rows.scriptKnownRow.wfByText (OpenSpec.ofChange Rows.scriptKnownSpec) = true := by kernel_rfl
theorem x_main : Tryz.pinned.checked.prog.mainIs = some (true, "381358e076892f218ee889db28a955a084ea776a0a85c86506230902e142a076".toList) := by kernel_rfl
end Go.Proofs.YtgkgijlloodejaaGreatDoor.scriptKnown
