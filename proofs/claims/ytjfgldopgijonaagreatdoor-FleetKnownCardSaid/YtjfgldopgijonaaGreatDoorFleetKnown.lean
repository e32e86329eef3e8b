/-
  The closed law FleetKnown returns true, whatever the world in which the listed variables read as the program's text lays them; what was there reads behind the call as it read before. The variables are tied to the text.
  No condition. The call is evaluated in the kernel by an evaluator that is proved right over the model.
-/
import Derived.Test.YtjfgldopgijonaaGreatDoorCards
import Derived.Test.YtjfgldopgijonaaGreatDoorTie
import Derived.Test.YtjfgldopgijonaaGreatDoorLibFleetKnownV
import Derived.ProofKit
import Derived.OpenShut
import Derived.LaidMore
import Derived.Lay
import Derived.SevenTiedAt
import Derived.Stop.Joined
namespace Go.Proofs.YtjfgldopgijonaaGreatDoor.fleetKnown
open Go.ChangeShapes Go.WideShapes Go.ChangeAt Go.RowKit Go.Abs
set_option linter.unusedVariables false

set_option maxRecDepth 100000
theorem band {a b : Bool} (ha : a = true) (hb : b = true) : (a && b) = true := by rw [ha, hb]; rfl
theorem joined : joinedFacts Tryz.pinned.checked.prog 3 Tryz.f3 Rows.fleetKnownSpec Rows.fleetKnownRow = true := by
  unfold joinedFacts
  exact band (band (band (band (band (band (band (band (band (band (band (band (band (band (band (band (band (band (band (band (band (band (band (band (band (band (band (band (band (band (band (q0) q1) q2) q3) q4) q5) q6) q7) q8) q9) q10) q11) q12) q13) q14) q15) q16) q17) q18) q19) q20) q21) q22) q23) q24) q25) q26) q27) q28) q29) q30) q31
theorem x_goes : false = Rows.fleetKnownRow.goesBy Tryz.pinned.checked.prog := by
  have h2 : Tryz.pinned.checked.prog.goes 3 = false := by unfold Program.goes; rw [x_goes1, x_goes2, Bool.and_false]; rfl
  have h3 : Tryz.pinned.checked.prog.funcNamed Rows.fleetKnownRow.func = some 3 := by kernel_rfl
  unfold OpenClaim.goesBy Program.goesAt Program.goesFrom
  rw [h3, Option.any_some, h2]
  rfl
theorem over : Rows.fleetKnownRow.holds Tryz.pinned (OpenSpec.ofChange Rows.fleetKnownSpec) :=
  OpenClaim.holds_of_wide 3 Tryz.f3 rfl rfl rfl rfl rfl rfl rfl ⟨rfl, rfl, rfl, rfl, rfl⟩ rfl rfl rfl rfl rfl (by kernel_rfl) Tryz.func3 joined
    (of_decide_eq_true (by kernel_rfl)) (by unfold Func.isWrapper; first | (rw [if_pos (by decide +kernel)]; kernel_rfl) | (rw [if_neg (by decide +kernel)]; exact ⟨rfl, rfl⟩))
    (fun os started H enc _ => lifted os started H enc)

/-- The statement. -/
theorem proved : Rows.FleetKnownCardSaid :=
  Claim7.holds_tied_plain_at .later [] [.data, .data, .data, .data, .sentinel, .sentinel, .pinned] true (true, "02aa526207f7923670ccafc083d154b90199447efec9849a3ad3c3d61beebe8b") true over (fun _ h => by cases h) x_wf (fun _ h => by cases h) fleetKnown_row_tie rfl ⟨rfl, rfl⟩ x_main rfl
    (fun f fn hf hfn => by
      obtain rfl : f = 3 := Option.some.inj ((show Tryz.prog.funcNamed "escapement/escapementlaw27.FleetKnown" = some 3 by kernel_rfl).symm.trans hf) |>.symm
      obtain rfl : fn = Tryz.f3 := (Option.some.inj (Tryz.func3.symm.trans hfn)).symm
      exact ⟨x_looks, fun j t ht => by
        rw [Tryz.params3] at ht
        have hm : t ∈ ([] : List TypeId) := by simpa using Array.mem_of_getElem? ht
        cases hm⟩)
    x_goes
#print axioms proved
end Go.Proofs.YtjfgldopgijonaaGreatDoor.fleetKnown
