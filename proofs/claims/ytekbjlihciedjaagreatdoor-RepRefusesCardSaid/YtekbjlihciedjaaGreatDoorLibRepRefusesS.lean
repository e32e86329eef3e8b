/-
  Own library of this claim, part 19: texts one behind the other.
-/
import Derived.Test.YtekbjlihciedjaaGreatDoorLibRepRefusesR
set_option maxRecDepth 100000
set_option maxHeartbeats 8000000
set_option linter.unusedVariables false
set_option linter.unusedSimpArgs false
namespace Go.Proofs.YtekbjlihciedjaaGreatDoor.repRefuses
open Go Go.ChangeShapes Go.WideShapes Go.ChangeAt Go.RowKit Go.Abs
theorem q22 : ((Rows.repRefusesRow.plainKeys == Tryz.pinned.checked.prog.plainKeys)) = true := by kernel_rfl
theorem q23 : (Rows.repRefusesRow.shortTexts.isNone) = true := by kernel_rfl
theorem q24 : (Tryz.pinned.checked.prog.stopsHeard) = true := by kernel_rfl
theorem q25 : (Tryz.pinned.checked.prog.mayEnter) = true := by kernel_rfl
theorem q26 : ((Rows.repRefusesRow.lifted == Tryz.pinned.checked.prog.liftsFinal)) = true := by kernel_rfl
theorem q27 : ((Tryz.pinned.checked.prog.make == some Rows.repRefusesRow.make)) = true := by kernel_rfl
theorem q28 : ((Rows.repRefusesRow.kinds == (if Rows.repRefusesRow.domain.isEmpty then [] else Tryz.f5.params.toList.map fun t => match Tryz.pinned.checked.prog.underlying t with | some (.int k) => some k | _ => none))) = true := by kernel_rfl
theorem q29 : ((Rows.repRefusesRow.pinned == Rows.repRefusesRow.pinnedBy)) = true := by kernel_rfl
theorem q30 : ((Rows.repRefusesRow.veiled == (Tryz.f5.params.toList ++ Rows.repRefusesSpec.plain.varTypes Tryz.pinned.checked.prog ++ Tryz.f5.resultTypes.toList).any (Tryz.pinned.checked.prog.veiledRec ·))) = true := by kernel_rfl
theorem q31 : (Rows.repRefusesRow.veiledFits Tryz.pinned.checked.prog Tryz.f5.params.toList (Tryz.f5.params.toList ++ Rows.repRefusesSpec.plain.varTypes Tryz.pinned.checked.prog ++ Tryz.f5.resultTypes.toList)) = true := by kernel_rfl
end Go.Proofs.YtekbjlihciedjaaGreatDoor.repRefuses
