/-
  The law ScriptForms returns true for every input, whatever the world in which the listed variables read as the program's text lays them; its arguments read behind the call as they read before. The variables are tied to the text.
  No condition.
-/
import Derived.Test.YtajcehcdmbfhaaaGreatDoorCards
import Derived.Test.YtajcehcdmbfhaaaGreatDoorLibScriptFormsH
import Derived.Test.YtajcehcdmbfhaaaGreatDoorLibScriptFormsI
import Derived.Test.YtajcehcdmbfhaaaGreatDoorLibScriptFormsJ
import Derived.Test.YtajcehcdmbfhaaaGreatDoorLibScriptFormsK
import Derived.Test.YtajcehcdmbfhaaaGreatDoorLibScriptFormsL
import Derived.Test.YtajcehcdmbfhaaaGreatDoorLibScriptFormsM
import Derived.Test.YtajcehcdmbfhaaaGreatDoorLibScriptFormsN
import Derived.Test.YtajcehcdmbfhaaaGreatDoorLibScriptFormsO
import Derived.Test.YtajcehcdmbfhaaaGreatDoorLibScriptFormsP
import Derived.Test.YtajcehcdmbfhaaaGreatDoorLibScriptFormsZC
import Derived.ProofKit
import Derived.OpenShut
import Derived.LaidMore
import Derived.Lay
import Derived.SevenTiedAt
import Derived.Stop.Joined
namespace Go.Proofs.YtajcehcdmbfhaaaGreatDoor.scriptForms
open Go.ChangeShapes Go.WideShapes Go.ChangeAt Go.RowKit Go.Abs
set_option linter.unusedVariables false

set_option maxRecDepth 100000
theorem band {a b : Bool} (ha : a = true) (hb : b = true) : (a && b) = true := by rw [ha, hb]; rfl
theorem joined : joinedFacts Tryz.pinned.checked.prog 4 Tryz.f4 Rows.scriptFormsSpec Rows.scriptFormsRow = true := by
  unfold joinedFacts
  exact band (band (band (band (band (band (band (band (band (band (band (band (band (band (band (band (band (band (band (band (band (band (band (band (band (band (band (band (band (band (band (q0) q1) q2) q3) q4) q5) q6) q7) q8) q9) q10) q11) q12) q13) q14) q15) q16) q17) q18) q19) q20) q21) q22) q23) q24) q25) q26) q27) q28) q29) q30) q31
theorem x_goes : false = Rows.scriptFormsRow.goesBy Tryz.pinned.checked.prog := by
  have h2 : Tryz.pinned.checked.prog.goes 4 = false := by unfold Program.goes; rw [x_goes1, x_goes2, Bool.and_false]; rfl
  have h3 : Tryz.pinned.checked.prog.funcNamed Rows.scriptFormsRow.func = some 4 := by kernel_rfl
  unfold OpenClaim.goesBy Program.goesAt Program.goesFrom
  rw [h3, Option.any_some, h2]
  rfl
theorem over : Rows.scriptFormsRow.holds Tryz.pinned (OpenSpec.ofChange Rows.scriptFormsSpec) :=
  OpenClaim.holds_of_wide 4 Tryz.f4 rfl rfl rfl rfl rfl rfl rfl ⟨rfl, rfl, rfl, rfl, rfl⟩ rfl rfl rfl rfl rfl (by kernel_rfl) Tryz.func4 joined
    (of_decide_eq_true (by kernel_rfl)) (by unfold Func.isWrapper; first | (rw [if_pos (by decide +kernel)]; kernel_rfl) | (rw [if_neg (by decide +kernel)]; exact ⟨rfl, rfl⟩))
    (fun os started H enc _ => lifted os started H enc)

/-- The statement. -/
theorem proved : Rows.ScriptFormsCardSaid :=
  Claim7.holds_tied_plain_at .later [] [.pinned, .data, .sentinel, .sentinel, .data, .data, .data] true (true, "96e640b9843701369e490a590cf312bdbcd88ca10b627e9418b14bb2027a2670") true over (fun _ h => by cases h) x_wf (fun _ h => by cases h) scriptForms_row_tie rfl ⟨rfl, rfl⟩ x_main rfl
    (fun f fn hf hfn => by
      obtain rfl : f = 4 := Option.some.inj ((show Tryz.prog.funcNamed "escapement/escapementlaw28.ScriptForms" = some 4 by kernel_rfl).symm.trans hf) |>.symm
      obtain rfl : fn = Tryz.f4 := (Option.some.inj (Tryz.func4.symm.trans hfn)).symm
      exact ⟨x_looks, fun j t ht => by
        rw [Tryz.params4] at ht
        have hm : t ∈ ([3, 3] : List TypeId) := by simpa using Array.mem_of_getElem? ht
        simp only [List.mem_cons, List.not_mem_nil, or_false] at hm
        rcases hm with rfl | rfl
        · exact wants3
        · exact wants3⟩)
    x_goes
#print axioms proved
end Go.Proofs.YtajcehcdmbfhaaaGreatDoor.scriptForms
