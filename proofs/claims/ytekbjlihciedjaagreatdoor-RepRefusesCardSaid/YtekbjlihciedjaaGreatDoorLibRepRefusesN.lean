/-
  Own library of this claim, part 14: texts one behind the other.
-/
import Derived.Test.YtekbjlihciedjaaGreatDoorLibRepRefusesM
set_option maxRecDepth 100000
set_option maxHeartbeats 8000000
set_option linter.unusedVariables false
set_option linter.unusedSimpArgs false
namespace Go.Proofs.YtekbjlihciedjaaGreatDoor.repRefuses
open Go Go.ChangeShapes Go.WideShapes Go.ChangeAt Go.RowKit Go.Abs
theorem q0 : (Rows.repRefusesRow.wf (OpenSpec.ofChange Rows.repRefusesSpec)) = true := by kernel_rfl
theorem q1 : (laidOutB Tryz.pinned.checked.prog) = true := by kernel_rfl
theorem q2 : (mapsRowed Tryz.pinned.checked.prog) = true := by kernel_rfl
theorem q3 : (Tryz.f5.params.all (Tryz.pinned.checked.prog.readableRec ·)) = true := by kernel_rfl
theorem q4 : (namedTie Tryz.pinned.checked.prog Rows.repRefusesRow.named Rows.repRefusesSpec.vars) = true := by kernel_rfl
theorem q5 : ((Rows.repRefusesRow.stops == [])) = true := by kernel_rfl
theorem q6 : ((Tryz.pinned.checked.prog.stops == [])) = true := by kernel_rfl
theorem q7 : ((Rows.repRefusesRow.knobs == [])) = true := by kernel_rfl
theorem q8 : ((Tryz.pinned.checked.prog.stopKnobs == [])) = true := by kernel_rfl
end Go.Proofs.YtekbjlihciedjaaGreatDoor.repRefuses
