/-
  Own library of this claim, part 25: texts one behind the other (SnQ1).
-/
import Derived.Test.YtgkgijlloodejaaGreatDoorRows
import Derived.Test.YtgkgijlloodejaaGreatDoorCards
import Derived.ProofKit
import Derived.OpenShut
import Derived.LaidMore
import Derived.Lay
import Derived.SevenTiedAt
import Derived.Stop.Joined

/-
  Closed facts of the row.
-/

namespace Go.Proofs.YtgkgijlloodejaaGreatDoor.scriptKnown
open Go Go.ChangeShapes Go.WideShapes Go.ChangeAt Go.RowKit
theorem q9 : ((Rows.scriptKnownRow.inPlace == Tryz.pinned.checked.prog.inPlace 3)) = true := by kernel_rfl
end Go.Proofs.YtgkgijlloodejaaGreatDoor.scriptKnown
