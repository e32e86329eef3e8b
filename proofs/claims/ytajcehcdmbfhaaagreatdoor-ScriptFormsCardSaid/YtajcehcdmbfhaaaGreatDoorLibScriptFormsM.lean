/-
  Own library of this claim, part 27: texts one behind the other (SnQ5).
-/
import Derived.Test.YtajcehcdmbfhaaaGreatDoorRows
import Derived.Test.YtajcehcdmbfhaaaGreatDoorCards
import Derived.ProofKit
import Derived.OpenShut
import Derived.LaidMore
import Derived.Lay
import Derived.SevenTiedAt
import Derived.Stop.Joined
set_option linter.unusedVariables false
set_option linter.unusedSimpArgs false

/-
  Closed facts of the row.
-/








namespace Go.Proofs.YtajcehcdmbfhaaaGreatDoor.scriptForms
open Go Go.ChangeShapes Go.WideShapes Go.ChangeAt Go.RowKit
theorem q22 : ((Rows.scriptFormsRow.plainKeys == Tryz.pinned.checked.prog.plainKeys)) = true := by kernel_rfl
theorem q23 : (Rows.scriptFormsRow.shortTexts.isNone) = true := by kernel_rfl
theorem q24 : (Tryz.pinned.checked.prog.stopsHeard) = true := by kernel_rfl
theorem q25 : (Tryz.pinned.checked.prog.mayEnter) = true := by kernel_rfl
theorem q26 : ((Rows.scriptFormsRow.lifted == Tryz.pinned.checked.prog.liftsFinal)) = true := by kernel_rfl
theorem q27 : ((Tryz.pinned.checked.prog.make == some Rows.scriptFormsRow.make)) = true := by kernel_rfl
theorem q28 : ((Rows.scriptFormsRow.kinds == (if Rows.scriptFormsRow.domain.isEmpty then [] else Tryz.f4.params.toList.map fun t => match Tryz.pinned.checked.prog.underlying t with | some (.int k) => some k | _ => none))) = true := by kernel_rfl
theorem q29 : ((Rows.scriptFormsRow.pinned == Rows.scriptFormsRow.pinnedBy)) = true := by kernel_rfl
theorem q30 : ((Rows.scriptFormsRow.veiled == (Tryz.f4.params.toList ++ Rows.scriptFormsSpec.plain.varTypes Tryz.pinned.checked.prog ++ Tryz.f4.resultTypes.toList).any (Tryz.pinned.checked.prog.veiledRec ·))) = true := by kernel_rfl
theorem q31 : (Rows.scriptFormsRow.veiledFits Tryz.pinned.checked.prog Tryz.f4.params.toList (Tryz.f4.params.toList ++ Rows.scriptFormsSpec.plain.varTypes Tryz.pinned.checked.prog ++ Tryz.f4.resultTypes.toList)) = true := by kernel_rfl
end Go.Proofs.YtajcehcdmbfhaaaGreatDoor.scriptForms
