/-
  Own library of this claim, part 13: texts one behind the other (RkQ0).
-/
import Derived.Test.YtnhomjhfaoipmaaGreatDoorLibRepKnownL

namespace Go.Proofs.YtnhomjhfaoipmaaGreatDoor.repKnown
open Go Go.ChangeShapes Go.WideShapes Go.ChangeAt Go.RowKit Go.Abs
theorem q0 : (Rows.repKnownRow.wf (OpenSpec.ofChange Rows.repKnownSpec)) = true := by kernel_rfl
theorem q1 : (laidOutB Tryz.pinned.checked.prog) = true := by kernel_rfl
theorem q2 : (mapsRowed Tryz.pinned.checked.prog) = true := by kernel_rfl
theorem q3 : (Tryz.f3.params.all (Tryz.pinned.checked.prog.readableRec ·)) = true := by kernel_rfl
theorem q4 : (namedTie Tryz.pinned.checked.prog Rows.repKnownRow.named Rows.repKnownSpec.vars) = true := by kernel_rfl
theorem q5 : ((Rows.repKnownRow.stops == [])) = true := by kernel_rfl
theorem q6 : ((Tryz.pinned.checked.prog.stops == [])) = true := by kernel_rfl
theorem q7 : ((Rows.repKnownRow.knobs == [])) = true := by kernel_rfl
theorem q8 : ((Tryz.pinned.checked.prog.stopKnobs == [])) = true := by kernel_rfl
end Go.Proofs.YtnhomjhfaoipmaaGreatDoor.repKnown
