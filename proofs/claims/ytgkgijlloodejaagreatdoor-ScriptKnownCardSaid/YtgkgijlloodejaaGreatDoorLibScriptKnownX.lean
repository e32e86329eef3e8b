/-
  Own library of this claim, part 24: texts one behind the other (SnQ0).
-/
import Derived.Test.YtgkgijlloodejaaGreatDoorRows
import Derived.Test.YtgkgijlloodejaaGreatDoorCards
import Derived.ProofKit
import Derived.OpenShut
import Derived.LaidMore
import Derived.Lay
import Derived.SevenTiedAt
import Derived.Stop.Joined

/-
  Closed facts of the row.
-/

namespace Go.Proofs.YtgkgijlloodejaaGreatDoor.scriptKnown
open Go Go.ChangeShapes Go.WideShapes Go.ChangeAt Go.RowKit
theorem q0 : (Rows.scriptKnownRow.wf (OpenSpec.ofChange Rows.scriptKnownSpec)) = true := by kernel_rfl
theorem q1 : (laidOutB Tryz.pinned.checked.prog) = true := by kernel_rfl
theorem q2 : (mapsRowed Tryz.pinned.checked.prog) = true := by kernel_rfl
theorem q3 : (Tryz.f3.params.all (Tryz.pinned.checked.prog.readableRec ·)) = true := by kernel_rfl
theorem q4 : (namedTie Tryz.pinned.checked.prog Rows.scriptKnownRow.named Rows.scriptKnownSpec.vars) = true := by kernel_rfl
theorem q5 : ((Rows.scriptKnownRow.stops == [])) = true := by kernel_rfl
theorem q6 : ((Tryz.pinned.checked.prog.stops == [])) = true := by kernel_rfl
theorem q7 : ((Rows.scriptKnownRow.knobs == [])) = true := by kernel_rfl
theorem q8 : ((Tryz.pinned.checked.prog.stopKnobs == [])) = true := by kernel_rfl
end Go.Proofs.YtgkgijlloodejaaGreatDoor.scriptKnown
