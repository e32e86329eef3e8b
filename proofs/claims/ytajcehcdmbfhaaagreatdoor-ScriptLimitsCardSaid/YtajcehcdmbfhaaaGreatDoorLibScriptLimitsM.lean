/-
  Own library of this claim, part 27: texts one behind the other (SmQ5).
-/
import Derived.Test.YtajcehcdmbfhaaaGreatDoorRows
import Derived.Test.YtajcehcdmbfhaaaGreatDoorCards
import Derived.ProofKit
import Derived.OpenShut
import Derived.LaidMore
import Derived.Lay
import Derived.SevenTiedAt
import Derived.Stop.Joined
set_option linter.unusedVariables false
set_option linter.unusedSimpArgs false

/-
  Closed facts of the row.
-/








namespace Go.Proofs.YtajcehcdmbfhaaaGreatDoor.scriptLimits
open Go Go.ChangeShapes Go.WideShapes Go.ChangeAt Go.RowKit
theorem q22 : ((Rows.scriptLimitsRow.plainKeys == Tryz.pinned.checked.prog.plainKeys)) = true := by kernel_rfl
theorem q23 : (Rows.scriptLimitsRow.shortTexts.isNone) = true := by kernel_rfl
theorem q24 : (Tryz.pinned.checked.prog.stopsHeard) = true := by kernel_rfl
theorem q25 : (Tryz.pinned.checked.prog.mayEnter) = true := by kernel_rfl
theorem q26 : ((Rows.scriptLimitsRow.lifted == Tryz.pinned.checked.prog.liftsFinal)) = true := by kernel_rfl
theorem q27 : ((Tryz.pinned.checked.prog.make == some Rows.scriptLimitsRow.make)) = true := by kernel_rfl
theorem q28 : ((Rows.scriptLimitsRow.kinds == (if Rows.scriptLimitsRow.domain.isEmpty then [] else Tryz.f3.params.toList.map fun t => match Tryz.pinned.checked.prog.underlying t with | some (.int k) => some k | _ => none))) = true := by kernel_rfl
theorem q29 : ((Rows.scriptLimitsRow.pinned == Rows.scriptLimitsRow.pinnedBy)) = true := by kernel_rfl
theorem q30 : ((Rows.scriptLimitsRow.veiled == (Tryz.f3.params.toList ++ Rows.scriptLimitsSpec.plain.varTypes Tryz.pinned.checked.prog ++ Tryz.f3.resultTypes.toList).any (Tryz.pinned.checked.prog.veiledRec ·))) = true := by kernel_rfl
theorem q31 : (Rows.scriptLimitsRow.veiledFits Tryz.pinned.checked.prog Tryz.f3.params.toList (Tryz.f3.params.toList ++ Rows.scriptLimitsSpec.plain.varTypes Tryz.pinned.checked.prog ++ Tryz.f3.resultTypes.toList)) = true := by kernel_rfl
end Go.Proofs.YtajcehcdmbfhaaaGreatDoor.scriptLimits
