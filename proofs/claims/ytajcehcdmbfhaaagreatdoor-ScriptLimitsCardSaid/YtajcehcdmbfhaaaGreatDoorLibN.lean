/-
  Own library of this claim, part 14: texts one behind the other (SfF).
-/
import Derived.Test.YtajcehcdmbfhaaaGreatDoorLibM
set_option linter.unusedVariables false
set_option linter.unusedSimpArgs false

/-
  The law's helpers: awake, one.
-/


namespace Go.Proofs.YtajcehcdmbfhaaaGreatDoor
open Go Go.Abs Go.Lex Go.RowKit
set_option maxRecDepth 100000
variable {G : Nat → Option AV}

noncomputable def knownAw : Ov := ovAdd 6 (litOv [([.str skT0], skA0)]) knownS0
theorem knownAw_good : OvGoodK Tryz.prog (Gof tab) knownAw := ovAdd_good (litOv_good fun e he H => by
  simp only [List.mem_cons, List.not_mem_nil, or_false] at he
  subst he
  exact skRun0 H) knownS0_good
theorem awake28_run : fcall knownAw Tryz.prog (Gof tab) 100000 300 5 [] FH.empty (litK (.bool true)) = true := by kernel_rfl
theorem awake28 (H : AHeap) : Does Tryz.prog (Gof tab) 5 [] H fun r h => r = .bool true ∧ h = H := lit_does mixed5 plain5 knownAw_good gof_tab5 (by kernel_rfl) (by kernel_rfl) awake28_run H
theorem one_eq (x : List UInt8) : withL oneP x = oneP ++ [10, 45, 45, 45, 10] ++ x := by simp [withL, bord]
theorem one_text (x : List UInt8) (hx : x.length ≤ 1000000) (H : AHeap) : Does Tryz.prog G 7 [.str x] H fun r h => r = .str (withL oneP x) ∧ h = H := by
  refine does_f Tryz.call7 Tryz.func7 rfl (by simp [Tryz.f7]) ?_
  simp
  rw [if_pos (by omega)]
  simp [withL, bord, oneP]
end Go.Proofs.YtajcehcdmbfhaaaGreatDoor
