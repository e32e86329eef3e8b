/-
  Own library of this claim, part 13: texts one behind the other.
-/
import Derived.Test.YtekbjlihciedjaaGreatDoorCards
import Derived.Test.YtekbjlihciedjaaGreatDoorTie
import Derived.ProofKit
import Derived.OpenShut
import Derived.LaidMore
import Derived.Lay
import Derived.SevenTiedAt
import Derived.Stop.Joined
import Derived.Test.YtekbjlihciedjaaGreatDoorLibRepRefusesL
set_option maxRecDepth 100000
set_option maxHeartbeats 8000000
set_option linter.unusedVariables false
set_option linter.unusedSimpArgs false
namespace Go.Proofs.YtekbjlihciedjaaGreatDoor.repRefuses
open Go.ChangeShapes Go.WideShapes Go.ChangeAt Go.RowKit Go.Abs
theorem own : ownKnob Tryz.prog.godebug = none := by kernel_rfl
theorem laid : laidOutB Tryz.prog = true := by kernel_rfl
theorem plain22 : plainTy Tryz.prog 8 22 = true := by kernel_rfl
theorem one22 : (match Tryz.prog.underlying 22 with | some (.struct _) => false | _ => true) = true := by kernel_rfl
theorem wants22 : Tryz.pinned.checked.prog.wantsStandIn 22 = false := by kernel_rfl
theorem read22 : Tryz.prog.readableRec 22 = true /\ 22 < Tryz.prog.types.size := ⟨by kernel_rfl, of_decide_eq_true (by kernel_rfl)⟩
theorem plain33 : plainTy Tryz.prog 8 33 = true := by kernel_rfl
theorem one33 : (match Tryz.prog.underlying 33 with | some (.struct _) => false | _ => true) = true := by kernel_rfl
theorem wants33 : Tryz.pinned.checked.prog.wantsStandIn 33 = false := by kernel_rfl
theorem read33 : Tryz.prog.readableRec 33 = true /\ 33 < Tryz.prog.types.size := ⟨by kernel_rfl, of_decide_eq_true (by kernel_rfl)⟩
theorem plain45 : plainTy Tryz.prog 8 45 = true := by kernel_rfl
theorem one45 : (match Tryz.prog.underlying 45 with | some (.struct _) => false | _ => true) = true := by kernel_rfl
theorem wants45 : Tryz.pinned.checked.prog.wantsStandIn 45 = false := by kernel_rfl
theorem read45 : Tryz.prog.readableRec 45 = true /\ 45 < Tryz.prog.types.size := ⟨by kernel_rfl, of_decide_eq_true (by kernel_rfl)⟩
theorem lifted (os : Os) (started : os.Started) (H : Type) (enc : TypeId × Value -> H) :
  ReturnsInHanded {} Tryz.checked os 5 .any (fun w args => (Rows.repRefusesSpec.pre enc Tryz.prog Tryz.f5 Rows.repRefusesRow.domain false w args /\ laidMetH Tryz.prog seatLaid w) /\ sizedMet enc Tryz.prog Tryz.f5 (OpenSpec.ofChange Rows.repRefusesSpec) false w args)
   (Rows.repRefusesSpec.post enc Tryz.prog Tryz.f5 false true false false) := by
 refine returnsInHanded_of_change_and (C := Tryz.checked) (X := fun w _ => laidMetH Tryz.prog seatLaid w) (fun _ _ _ hh h => h.of_heap hh) own started (by kernel_rfl) Tryz.func5
  (ChangeSpec.witness_shaped (enc := enc) (C := Tryz.checked) (os := os) (X := fun w _ => laidMetH Tryz.prog seatLaid w) false (World.laidAll Tryz.prog os seatLaid) #[.slice none 0 0, .slice none 0 0, .slice none 0 0] 8 (World.laidAll_os _ _ _)
    (World.shaped_of_ZipB (by kernel_rfl) (by kernel_rfl)) (by kernel_rfl) (by kernel_rfl) (by kernel_rfl)
    (by rw [MakeChecks.laidMetH_plain _ _ _ (by kernel_rfl)]; exact laidMet_laidAll _ (by kernel_rfl) (by kernel_rfl))) ?_
 intro W base args ds gs before hval0 hW hcnd _ hL _
 rw [MakeChecks.laidMetH_plain _ _ _ (by kernel_rfl)] at hL
 have hval : ∀ (j : Nat) t v, Tryz.f5.params[j]? = some t -> args[j]? = some v -> Value.okWide Tryz.prog W .any base t v := hval0
 have hW' := hW
 have hltb : ∀ x ∈ before, x.block < W.heap.size := fun x hx => hW.lt x hx
 obtain ⟨p, q, hA0, hV, rfl, hfz, hnd⟩ := hW
 have hA : DataW.TrodAll enc Tryz.prog W 0 (fun _ => true) true Tryz.f5.params.toList args.toList ds p := hA0
 rw [Tryz.params5] at hA hval
 have hA1 := hA
 obtain ⟨v0, vs0, d0, ds0, p0, q0, hargs, rfl, rfl, h0, r0⟩ := trodAll_cons hA
 obtain ⟨v1, vs1, d1, ds1, p1, q1, rfl, rfl, rfl, h1, r1⟩ := trodAll_cons r0
 obtain ⟨v2, vs2, d2, ds2, p2, q2, rfl, rfl, rfl, h2, r2⟩ := trodAll_cons r1
 obtain ⟨rfl, rfl, rfl⟩ := trodAll_nil r2
 obtain rfl : args = #[v0, v1, v2] := by cases args; simp_all
 obtain ⟨rfl, rfl⟩ := trodVars_none hV
 obtain ⟨a0, e0, s0⟩ := open_arg plain33 one33 (hval 0 33 v0 rfl rfl) h0
 obtain ⟨a1, e1, s1⟩ := open_arg plain45 one45 (hval 1 45 v1 rfl rfl) h1
 obtain ⟨a2, e2, s2⟩ := open_arg plain22 one22 (hval 2 22 v2 rfl rfl) h2
 clear hA0 hval0
 simp only [List.append_nil] at hW'
 try simp only [List.append_nil] at hltb
 try simp only [List.append_nil] at hA1
 have hc : Calls Tryz.prog 5 #[v0, v1, v2] W fun e w' => e = .returned (.bool true) /\ Olds W w' :=
  (refuses_law (AHeap.empty 0) a0 a1 a2 s0 s1 s2).yes Tryz.call5 (fun _ _ h => h) W (laid_start hL) (.cons e0 (.cons e1 (.cons e2 .nil)))
 refine hc.mono fun e W' ⟨he, hg⟩ => ?_
 subst he
 exact ⟨_, rfl, post_of_olds (pv := []) hW' (fun _ _ _ => (trodAll_cons_mk (shut_bool Tryz.underlying4 _) trodAll_mk0))
  (fun sp hsp => hg.stays laid sp (by intro t ht; simp at ht; rcases ht with rfl | rfl | rfl <;> first | exact read22 | exact read33 | exact read45) hA1 (fun x hx => ⟨hltb x hx, hsp x hx⟩)) (fun _ _ => rfl) (List.append_nil _).symm hg
  (ok_one (by kernel_rfl) rfl (okWide_bool_mk Tryz.underlying4 _))⟩
end Go.Proofs.YtekbjlihciedjaaGreatDoor.repRefuses
