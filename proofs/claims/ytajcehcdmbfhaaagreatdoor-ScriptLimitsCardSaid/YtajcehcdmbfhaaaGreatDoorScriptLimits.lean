/-
  The law ScriptLimits returns true for every input, whatever the world in which the listed variables read as the program's text lays them; its arguments read behind the call as they read before. The variables are tied to the text.
  No condition.
-/
import Derived.Test.YtajcehcdmbfhaaaGreatDoorCards
import Derived.Test.YtajcehcdmbfhaaaGreatDoorLibScriptLimitsH
import Derived.Test.YtajcehcdmbfhaaaGreatDoorLibScriptLimitsI
import Derived.Test.YtajcehcdmbfhaaaGreatDoorLibScriptLimitsJ
import Derived.Test.YtajcehcdmbfhaaaGreatDoorLibScriptLimitsK
import Derived.Test.YtajcehcdmbfhaaaGreatDoorLibScriptLimitsL
import Derived.Test.YtajcehcdmbfhaaaGreatDoorLibScriptLimitsM
import Derived.Test.YtajcehcdmbfhaaaGreatDoorLibScriptLimitsN
import Derived.Test.YtajcehcdmbfhaaaGreatDoorLibScriptLimitsO
import Derived.Test.YtajcehcdmbfhaaaGreatDoorLibScriptLimitsP
import Derived.Test.YtajcehcdmbfhaaaGreatDoorLibScriptLimitsR
import Derived.ProofKit
import Derived.OpenShut
import Derived.LaidMore
import Derived.Lay
import Derived.SevenTiedAt
import Derived.Stop.Joined
namespace Go.Proofs.YtajcehcdmbfhaaaGreatDoor.scriptLimits
open Go.ChangeShapes Go.WideShapes Go.ChangeAt Go.RowKit Go.Abs
set_option linter.unusedVariables false

set_option maxRecDepth 100000
theorem band {a b : Bool} (ha : a = true) (hb : b = true) : (a && b) = true := by rw [ha, hb]; rfl
theorem joined : joinedFacts Tryz.pinned.checked.prog 3 Tryz.f3 Rows.scriptLimitsSpec Rows.scriptLimitsRow = true := by
  unfold joinedFacts
  exact band (band (band (band (band (band (band (band (band (band (band (band (band (band (band (band (band (band (band (band (band (band (band (band (band (band (band (band (band (band (band (q0) q1) q2) q3) q4) q5) q6) q7) q8) q9) q10) q11) q12) q13) q14) q15) q16) q17) q18) q19) q20) q21) q22) q23) q24) q25) q26) q27) q28) q29) q30) q31
theorem x_goes : false = Rows.scriptLimitsRow.goesBy Tryz.pinned.checked.prog := by
  have h2 : Tryz.pinned.checked.prog.goes 3 = false := by unfold Program.goes; rw [x_goes1, x_goes2, Bool.and_false]; rfl
  have h3 : Tryz.pinned.checked.prog.funcNamed Rows.scriptLimitsRow.func = some 3 := by kernel_rfl
  unfold OpenClaim.goesBy Program.goesAt Program.goesFrom
  rw [h3, Option.any_some, h2]
  rfl
theorem over : Rows.scriptLimitsRow.holds Tryz.pinned (OpenSpec.ofChange Rows.scriptLimitsSpec) :=
  OpenClaim.holds_of_wide 3 Tryz.f3 rfl rfl rfl rfl rfl rfl rfl ⟨rfl, rfl, rfl, rfl, rfl⟩ rfl rfl rfl rfl rfl (by kernel_rfl) Tryz.func3 joined
    (of_decide_eq_true (by kernel_rfl)) (by unfold Func.isWrapper; first | (rw [if_pos (by decide +kernel)]; kernel_rfl) | (rw [if_neg (by decide +kernel)]; exact ⟨rfl, rfl⟩))
    (fun os started H enc _ => lifted os started H enc)

/-- The statement. -/
theorem proved : Rows.ScriptLimitsCardSaid :=
  Claim7.holds_tied_plain_at .later [] [.pinned, .data, .sentinel, .sentinel, .data, .data, .data] true (true, "96e640b9843701369e490a590cf312bdbcd88ca10b627e9418b14bb2027a2670") true over (fun _ h => by cases h) x_wf (fun _ h => by cases h) scriptLimits_row_tie rfl ⟨rfl, rfl⟩ x_main rfl
    (fun f fn hf hfn => by
      obtain rfl : f = 3 := Option.some.inj ((show Tryz.prog.funcNamed "escapement/escapementlaw28.ScriptLimits" = some 3 by kernel_rfl).symm.trans hf) |>.symm
      obtain rfl : fn = Tryz.f3 := (Option.some.inj (Tryz.func3.symm.trans hfn)).symm
      exact ⟨x_looks, fun j t ht => by
        rw [Tryz.params3] at ht
        have hm : t ∈ ([3] : List TypeId) := by simpa using Array.mem_of_getElem? ht
        simp only [List.mem_cons, List.not_mem_nil, or_false] at hm
        rcases hm with rfl
        · exact wants3⟩)
    x_goes
#print axioms proved
end Go.Proofs.YtajcehcdmbfhaaaGreatDoor.scriptLimits
