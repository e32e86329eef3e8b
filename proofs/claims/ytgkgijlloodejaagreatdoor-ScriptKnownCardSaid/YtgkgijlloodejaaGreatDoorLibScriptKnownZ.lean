/-
  Own library of this claim, part 26: texts one behind the other (SnQ2).
-/
import Derived.Test.YtgkgijlloodejaaGreatDoorRows
import Derived.Test.YtgkgijlloodejaaGreatDoorCards
import Derived.ProofKit
import Derived.OpenShut
import Derived.LaidMore
import Derived.Lay
import Derived.SevenTiedAt
import Derived.Stop.Joined

/-
  Closed facts of the row.
-/

namespace Go.Proofs.YtgkgijlloodejaaGreatDoor.scriptKnown
open Go Go.ChangeShapes Go.WideShapes Go.ChangeAt Go.RowKit
theorem q10 : ((Rows.scriptKnownRow.unfollowed == Tryz.pinned.checked.prog.unfollowed 3)) = true := by kernel_rfl
end Go.Proofs.YtgkgijlloodejaaGreatDoor.scriptKnown
