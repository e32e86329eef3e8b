/-
  Own library of this claim, part 32: texts one behind the other (SmM).
-/
import Derived.Test.YtajcehcdmbfhaaaGreatDoorCards
import Derived.ProofKit
import Derived.OpenShut
import Derived.LaidMore
import Derived.Lay
import Derived.SevenTiedAt
import Derived.Stop.Joined
import Derived.Test.YtajcehcdmbfhaaaGreatDoorLibScriptLimitsG
import Derived.Test.YtajcehcdmbfhaaaGreatDoorLibScriptLimitsQ
set_option linter.unusedVariables false
set_option linter.unusedSimpArgs false

/-
  The law ScriptLimits returns true for every input, whatever the world in which the listed variables read as the program's text lays them; its arguments read behind the call as they read before. The variables are tied to the text.
  No condition.
-/











namespace Go.Proofs.YtajcehcdmbfhaaaGreatDoor.scriptLimits
open Go.ChangeShapes Go.WideShapes Go.ChangeAt Go.RowKit Go.Abs

theorem own : ownKnob Tryz.prog.godebug = none := by kernel_rfl
theorem laid : laidOutB Tryz.prog = true := by kernel_rfl
theorem plain3 : plainTy Tryz.prog 8 3 = true := by kernel_rfl
theorem one3 : (match Tryz.prog.underlying 3 with | some (.struct _) => false | _ => true) = true := by kernel_rfl
theorem wants3 : Tryz.pinned.checked.prog.wantsStandIn 3 = false := by kernel_rfl
theorem read3 : Tryz.prog.readableRec 3 = true ∧ 3 < Tryz.prog.types.size := ⟨by kernel_rfl, of_decide_eq_true (by kernel_rfl)⟩
set_option maxRecDepth 100000 in
theorem lifted (os : Os) (started : os.Started) (H : Type) (enc : TypeId × Value → H) :
    ReturnsInHanded {} Tryz.checked os 3 .any (fun w args => (Rows.scriptLimitsSpec.pre enc Tryz.prog Tryz.f3 Rows.scriptLimitsRow.domain false w args ∧ laidMetH Tryz.prog seatLaid w) ∧ sizedMet enc Tryz.prog Tryz.f3 (OpenSpec.ofChange Rows.scriptLimitsSpec) false w args)
      (Rows.scriptLimitsSpec.post enc Tryz.prog Tryz.f3 false true false false) := by
  refine returnsInHanded_of_change_and (C := Tryz.checked) (X := fun w _ => laidMetH Tryz.prog seatLaid w) (fun _ _ _ hh h => h.of_heap hh) own started (by kernel_rfl) Tryz.func3
    (ChangeSpec.witness_shaped (enc := enc) (C := Tryz.checked) (os := os) (X := fun w _ => laidMetH Tryz.prog seatLaid w) false (World.laidAll Tryz.prog os seatLaid) #[.int .i64 0] 8 (World.laidAll_os _ _ _)
      (World.shaped_of_ZipB (by kernel_rfl) (by kernel_rfl)) (by kernel_rfl) (by kernel_rfl) (by kernel_rfl)
      (by rw [MakeChecks.laidMetH_plain _ _ _ (by kernel_rfl)]; exact laidMet_laidAll _ (by kernel_rfl) (by kernel_rfl))) ?_
  intro W base args ds gs before hval0 hW hcnd _ hL _
  rw [MakeChecks.laidMetH_plain _ _ _ (by kernel_rfl)] at hL
  have hval : ∀ (j : Nat) t v, Tryz.f3.params[j]? = some t → args[j]? = some v → Value.okWide Tryz.prog W .any base t v := hval0
  have hW' := hW
  have hltb : ∀ x ∈ before, x.block < W.heap.size := fun x hx => hW.lt x hx
  obtain ⟨p, q, hA0, hV, rfl, hfz, hnd⟩ := hW
  have hA : DataW.TrodAll enc Tryz.prog W 0 (fun _ => true) true Tryz.f3.params.toList args.toList ds p := hA0
  rw [Tryz.params3] at hA hval
  have hA1 := hA
  obtain ⟨v0, vs0, d0, ds0, p0, q0, hargs, rfl, rfl, h0, r0⟩ := trodAll_cons hA
  obtain ⟨rfl, rfl, rfl⟩ := trodAll_nil r0
  obtain rfl : args = #[v0] := by cases args; simp_all
  obtain ⟨rfl, rfl⟩ := trodVars_none hV
  obtain ⟨a0, e0, s0⟩ := open_arg plain3 one3 (hval 0 3 v0 rfl rfl) h0
  clear hA0 hval0
  simp only [List.append_nil] at hW'
  try simp only [List.append_nil] at hltb
  try simp only [List.append_nil] at hA1
  have hc : Calls Tryz.prog 3 #[v0] W fun e w' => e = .returned (.bool true) ∧ Olds W w' :=
    (limits_any (AHeap.empty 0) a0 s0).yes Tryz.call3 (fun _ _ h => h) W (laid_start hL) (.cons e0 .nil)
  refine hc.mono fun e W' ⟨he, hg⟩ => ?_
  subst he
  exact ⟨_, rfl, post_of_olds (pv := []) hW' (fun _ _ _ => (trodAll_cons_mk (shut_bool Tryz.underlying4 _) trodAll_mk0))
    (fun sp hsp => hg.stays laid sp (by intro t ht; simp at ht; subst ht; exact read3) hA1 (fun x hx => ⟨hltb x hx, hsp x hx⟩)) (fun _ _ => rfl) (List.append_nil _).symm hg
    (ok_one (by kernel_rfl) rfl (okWide_bool_mk Tryz.underlying4 _))⟩

end Go.Proofs.YtajcehcdmbfhaaaGreatDoor.scriptLimits
