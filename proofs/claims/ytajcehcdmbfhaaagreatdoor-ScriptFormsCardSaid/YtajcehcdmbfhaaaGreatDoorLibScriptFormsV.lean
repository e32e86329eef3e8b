/-
  Own library of this claim, part 36: texts one behind the other (SfZ).
-/
import Derived.Test.YtajcehcdmbfhaaaGreatDoorLibL
set_option linter.unusedVariables false
set_option linter.unusedSimpArgs false

/-
  What is known of the calls beneath the scripts that are played: one frame's sum more.
-/

namespace Go.Proofs.YtajcehcdmbfhaaaGreatDoor
open Go Go.Abs Go.RowKit
set_option maxRecDepth 100000

def sfFr : AV := .vsl [.int .u8 15,.int .u8 0,.int .u8 0,.int .u8 0,.int .u8 1,.int .u8 0,.int .u8 0,.int .u8 0,.int .u8 0,.int .u8 0,.int .u8 0,.int .u8 0,.int .u8 0,.int .u8 7,.int .u8 0,.int .u8 3,.int .u8 4,.int .u8 0,.int .u8 0,.int .u8 0,.int .u8 0,.int .u8 0,.int .u8 4,.int .u8 0,.int .u8 2,.int .u8 0,.int .u8 0] 27
theorem sfCrc_run : fcall knownP Tryz.prog (Gof tab) 100000 300 475 [sfFr] FH.empty (litK (.int .u32 3318763895)) = true := by kernel_rfl
theorem sfCrc (H : AHeap) : Does Tryz.prog (Gof tab) 475 [sfFr] H fun r h => r = (.int .u32 3318763895) ∧ h = H := lit_does mixed5 plain5 knownP_good gof_tab5 (by kernel_rfl) (by kernel_rfl) sfCrc_run H
noncomputable def knownTy : Ov := ovAdd 475 (resOv [([skFr0], (.int .u32 2819805001)), ([skFr1], (.int .u32 1368998431)), ([skFr2], (.int .u32 1485288707)), ([skFr3], (.int .u32 2796765518)), ([sfFr], (.int .u32 3318763895))]) knownSb
theorem knownTy_good : OvGoodK Tryz.prog (Gof tab) knownTy := ovAdd_good (resOv_good fun e he H => by
  simp only [List.mem_cons, List.not_mem_nil, or_false] at he
  rcases he with rfl | rfl | rfl | rfl | rfl
  · exact skCrc0 H
  · exact skCrc1 H
  · exact skCrc2 H
  · exact skCrc3 H
  · exact sfCrc H) knownSb_good
noncomputable def knownTz : Ov := ovAdd 69 (onceOv knownTy Tryz.prog (Gof tab) 100000 300) knownTy
theorem knownTz_good : OvGoodK Tryz.prog (Gof tab) knownTz := ovAdd_good (onceOv_good mixed5 plain5 knownTy_good fl_slow) knownTy_good
end Go.Proofs.YtajcehcdmbfhaaaGreatDoor
