/-
  The closed law ScriptKnown returns true, whatever the world in which the listed variables read as the program's text lays them; what was there reads behind the call as it read before. The variables are tied to the text.
  No condition. The call is evaluated in the kernel by an evaluator that is proved right over the model.
-/
import Derived.Test.YtgkgijlloodejaaGreatDoorCards
import Derived.Test.YtgkgijlloodejaaGreatDoorLibScriptKnownG
import Derived.Test.YtgkgijlloodejaaGreatDoorLibScriptKnownW
import Derived.Test.YtgkgijlloodejaaGreatDoorLibScriptKnownX
import Derived.Test.YtgkgijlloodejaaGreatDoorLibScriptKnownY
import Derived.Test.YtgkgijlloodejaaGreatDoorLibScriptKnownZ
import Derived.Test.YtgkgijlloodejaaGreatDoorLibScriptKnownZA
import Derived.Test.YtgkgijlloodejaaGreatDoorLibScriptKnownZB
import Derived.Test.YtgkgijlloodejaaGreatDoorLibScriptKnownZC
import Derived.Test.YtgkgijlloodejaaGreatDoorLibScriptKnownZD
import Derived.Test.YtgkgijlloodejaaGreatDoorLibScriptKnownZE
import Derived.Test.YtgkgijlloodejaaGreatDoorLibScriptKnownZF
import Derived.ProofKit
import Derived.OpenShut
import Derived.LaidMore
import Derived.Lay
import Derived.SevenTiedAt
import Derived.Stop.Joined
namespace Go.Proofs.YtgkgijlloodejaaGreatDoor.scriptKnown
open Go.ChangeShapes Go.WideShapes Go.ChangeAt Go.RowKit Go.Abs
set_option linter.unusedVariables false

set_option maxRecDepth 100000
theorem band {a b : Bool} (ha : a = true) (hb : b = true) : (a && b) = true := by rw [ha, hb]; rfl
theorem joined : joinedFacts Tryz.pinned.checked.prog 3 Tryz.f3 Rows.scriptKnownSpec Rows.scriptKnownRow = true := by
  unfold joinedFacts
  exact band (band (band (band (band (band (band (band (band (band (band (band (band (band (band (band (band (band (band (band (band (band (band (band (band (band (band (band (band (band (band (q0) q1) q2) q3) q4) q5) q6) q7) q8) q9) q10) q11) q12) q13) q14) q15) q16) q17) q18) q19) q20) q21) q22) q23) q24) q25) q26) q27) q28) q29) q30) q31
theorem x_goes : false = Rows.scriptKnownRow.goesBy Tryz.pinned.checked.prog := by
  have h2 : Tryz.pinned.checked.prog.goes 3 = false := by unfold Program.goes; rw [x_goes1, x_goes2, Bool.and_false]; rfl
  have h3 : Tryz.pinned.checked.prog.funcNamed Rows.scriptKnownRow.func = some 3 := by kernel_rfl
  unfold OpenClaim.goesBy Program.goesAt Program.goesFrom
  rw [h3, Option.any_some, h2]
  rfl
theorem over : Rows.scriptKnownRow.holds Tryz.pinned (OpenSpec.ofChange Rows.scriptKnownSpec) :=
  OpenClaim.holds_of_wide 3 Tryz.f3 rfl rfl rfl rfl rfl rfl rfl ⟨rfl, rfl, rfl, rfl, rfl⟩ rfl rfl rfl rfl rfl (by kernel_rfl) Tryz.func3 joined
    (of_decide_eq_true (by kernel_rfl)) (by unfold Func.isWrapper; first | (rw [if_pos (by decide +kernel)]; kernel_rfl) | (rw [if_neg (by decide +kernel)]; exact ⟨rfl, rfl⟩))
    (fun os started H enc _ => lifted os started H enc)

/-- The statement. -/
theorem proved : Rows.ScriptKnownCardSaid :=
  Claim7.holds_tied_plain_at .later [] [.pinned, .data, .sentinel, .sentinel, .data, .data, .data] true (true, "381358e076892f218ee889db28a955a084ea776a0a85c86506230902e142a076") true over (fun _ h => by cases h) x_wf (fun _ h => by cases h) scriptKnown_row_tie rfl ⟨rfl, rfl⟩ x_main rfl
    (fun f fn hf hfn => by
      obtain rfl : f = 3 := Option.some.inj ((show Tryz.prog.funcNamed "escapement/escapementlaw28.ScriptKnown" = some 3 by kernel_rfl).symm.trans hf) |>.symm
      obtain rfl : fn = Tryz.f3 := (Option.some.inj (Tryz.func3.symm.trans hfn)).symm
      exact ⟨x_looks, fun j t ht => by
        rw [Tryz.params3] at ht
        have hm : t ∈ ([] : List TypeId) := by simpa using Array.mem_of_getElem? ht
        cases hm⟩)
    x_goes
#print axioms proved
end Go.Proofs.YtgkgijlloodejaaGreatDoor.scriptKnown
