/-
  Own library of this claim, part 26: texts one behind the other (SnQ4).
-/
import Derived.Test.YtajcehcdmbfhaaaGreatDoorRows
import Derived.Test.YtajcehcdmbfhaaaGreatDoorCards
import Derived.ProofKit
import Derived.OpenShut
import Derived.LaidMore
import Derived.Lay
import Derived.SevenTiedAt
import Derived.Stop.Joined
set_option linter.unusedVariables false
set_option linter.unusedSimpArgs false

/-
  Closed facts of the row.
-/








namespace Go.Proofs.YtajcehcdmbfhaaaGreatDoor.scriptForms
open Go Go.ChangeShapes Go.WideShapes Go.ChangeAt Go.RowKit
theorem q12 : ((Rows.scriptFormsRow.named == Tryz.pinned.checked.prog.varsNamed 4)) = true := by kernel_rfl
theorem q13 : ((Rows.scriptFormsRow.maps == (Tryz.f4.params.toList ++ Rows.scriptFormsSpec.plain.varTypes Tryz.pinned.checked.prog).any (Tryz.pinned.checked.prog.mapsRec ·))) = true := by kernel_rfl
theorem q14 : ((Rows.scriptFormsRow.ifaces == (Tryz.f4.params.toList ++ Rows.scriptFormsSpec.plain.varTypes Tryz.pinned.checked.prog).any (Tryz.pinned.checked.prog.ifacesRec ·))) = true := by kernel_rfl
theorem q15 : ((Rows.scriptFormsRow.mapsOut == Tryz.pinned.checked.prog.mapsAmong Tryz.f4.resultTypes.toList)) = true := by kernel_rfl
theorem q16 : ((Rows.scriptFormsRow.loops == (Tryz.f4.params.toList ++ Rows.scriptFormsSpec.plain.varTypes Tryz.pinned.checked.prog).any (Tryz.pinned.checked.prog.loopsFrom ·))) = true := by kernel_rfl
theorem q17 : ((Rows.scriptFormsRow.wideKeys == (Tryz.f4.params.toList ++ Rows.scriptFormsSpec.plain.varTypes Tryz.pinned.checked.prog ++ Tryz.f4.resultTypes.toList).any (Tryz.pinned.checked.prog.wideKeysFrom ·))) = true := by kernel_rfl
theorem q18 : (Rows.scriptFormsSpec.vars.all (Tryz.pinned.checked.prog.varReadable ·)) = true := by kernel_rfl
theorem q19 : (Tryz.f4.resultTypes.all (fun t => Tryz.pinned.checked.prog.readableRec t && decide (t < Tryz.pinned.checked.prog.types.size))) = true := by kernel_rfl
theorem q20 : ((Rows.scriptFormsRow.ifacesOut == Tryz.f4.resultTypes.toList.any (Tryz.pinned.checked.prog.ifacesRec ·))) = true := by kernel_rfl
theorem q21 : ((Rows.scriptFormsRow.loopsOut == Tryz.f4.resultTypes.toList.any (Tryz.pinned.checked.prog.loopsFrom ·))) = true := by kernel_rfl
end Go.Proofs.YtajcehcdmbfhaaaGreatDoor.scriptForms
