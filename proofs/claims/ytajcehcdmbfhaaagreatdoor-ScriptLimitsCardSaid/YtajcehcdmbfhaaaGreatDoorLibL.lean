/-
  Own library of this claim, part 12: texts one behind the other (SkE).
-/
import Derived.Test.YtajcehcdmbfhaaaGreatDoorLibG
import Derived.Test.YtajcehcdmbfhaaaGreatDoorLibH
import Derived.Test.YtajcehcdmbfhaaaGreatDoorLibI
import Derived.Test.YtajcehcdmbfhaaaGreatDoorLibJ
import Derived.Test.YtajcehcdmbfhaaaGreatDoorLibK
set_option linter.unusedVariables false
set_option linter.unusedSimpArgs false

/-
  Frames' sums, fleets begun, the short scripts run: closed calls, said by the evaluator.
-/





namespace Go.Proofs.YtajcehcdmbfhaaaGreatDoor
open Go Go.Abs Go.RowKit
set_option maxRecDepth 100000

def skFr0 : AV := .vsl [.int .u8 9,.int .u8 0,.int .u8 0,.int .u8 0,.int .u8 0,.int .u8 0,.int .u8 0,.int .u8 0,.int .u8 0,.int .u8 0,.int .u8 0,.int .u8 0,.int .u8 1,.int .u8 7,.int .u8 0,.int .u8 1,.int .u8 1,.int .u8 1,.int .u8 0,.int .u8 0,.int .u8 0] 21
theorem skCrc0_run : fcall knownP Tryz.prog (Gof tab) 100000 300 475 [skFr0] FH.empty (litK (.int .u32 2819805001)) = true := by kernel_rfl
theorem skCrc0 (H : AHeap) : Does Tryz.prog (Gof tab) 475 [skFr0] H fun r h => r = (.int .u32 2819805001) ∧ h = H := lit_does mixed5 plain5 knownP_good gof_tab5 (by kernel_rfl) (by kernel_rfl) skCrc0_run H
def skFr1 : AV := .vsl [.int .u8 9,.int .u8 0,.int .u8 0,.int .u8 0,.int .u8 1,.int .u8 0,.int .u8 0,.int .u8 0,.int .u8 0,.int .u8 0,.int .u8 0,.int .u8 0,.int .u8 2,.int .u8 7,.int .u8 0,.int .u8 1,.int .u8 2,.int .u8 1,.int .u8 0,.int .u8 0,.int .u8 0] 21
theorem skCrc1_run : fcall knownP Tryz.prog (Gof tab) 100000 300 475 [skFr1] FH.empty (litK (.int .u32 1368998431)) = true := by kernel_rfl
theorem skCrc1 (H : AHeap) : Does Tryz.prog (Gof tab) 475 [skFr1] H fun r h => r = (.int .u32 1368998431) ∧ h = H := lit_does mixed5 plain5 knownP_good gof_tab5 (by kernel_rfl) (by kernel_rfl) skCrc1_run H
def skFr2 : AV := .vsl [.int .u8 14,.int .u8 0,.int .u8 0,.int .u8 0,.int .u8 2,.int .u8 0,.int .u8 0,.int .u8 0,.int .u8 0,.int .u8 0,.int .u8 0,.int .u8 0,.int .u8 3,.int .u8 12,.int .u8 0,.int .u8 1,.int .u8 3,.int .u8 0,.int .u8 0,.int .u8 0,.int .u8 1,.int .u8 4,.int .u8 1,.int .u8 0,.int .u8 1,.int .u8 10] 26
theorem skCrc2_run : fcall knownP Tryz.prog (Gof tab) 100000 300 475 [skFr2] FH.empty (litK (.int .u32 1485288707)) = true := by kernel_rfl
theorem skCrc2 (H : AHeap) : Does Tryz.prog (Gof tab) 475 [skFr2] H fun r h => r = (.int .u32 1485288707) ∧ h = H := lit_does mixed5 plain5 knownP_good gof_tab5 (by kernel_rfl) (by kernel_rfl) skCrc2_run H
def skFr3 : AV := .vsl [.int .u8 14,.int .u8 0,.int .u8 0,.int .u8 0,.int .u8 3,.int .u8 0,.int .u8 0,.int .u8 0,.int .u8 0,.int .u8 0,.int .u8 0,.int .u8 0,.int .u8 4,.int .u8 12,.int .u8 0,.int .u8 1,.int .u8 3,.int .u8 0,.int .u8 0,.int .u8 0,.int .u8 1,.int .u8 4,.int .u8 2,.int .u8 0,.int .u8 1,.int .u8 13] 26
theorem skCrc3_run : fcall knownP Tryz.prog (Gof tab) 100000 300 475 [skFr3] FH.empty (litK (.int .u32 2796765518)) = true := by kernel_rfl
theorem skCrc3 (H : AHeap) : Does Tryz.prog (Gof tab) 475 [skFr3] H fun r h => r = (.int .u32 2796765518) ∧ h = H := lit_does mixed5 plain5 knownP_good gof_tab5 (by kernel_rfl) (by kernel_rfl) skCrc3_run H
noncomputable def knownSb : Ov := ovAdd 346 (resOv [([skSt0], skDg0), ([skSt1], skDg1), ([skSt2], skDg2), ([skSt3], skDg3)]) knownSa
theorem knownSb_good : OvGoodK Tryz.prog (Gof tab) knownSb := ovAdd_good (resOv_good fun e he H => by
  simp only [List.mem_cons, List.not_mem_nil, or_false] at he
  rcases he with rfl | rfl | rfl | rfl
  · exact skSha0 H
  · exact skSha1 H
  · exact skSha2 H
  · exact skSha3 H) knownSa_good
noncomputable def knownSc : Ov := ovAdd 475 (resOv [([skFr0], (.int .u32 2819805001)), ([skFr1], (.int .u32 1368998431)), ([skFr2], (.int .u32 1485288707)), ([skFr3], (.int .u32 2796765518))]) knownSb
theorem knownSc_good : OvGoodK Tryz.prog (Gof tab) knownSc := ovAdd_good (resOv_good fun e he H => by
  simp only [List.mem_cons, List.not_mem_nil, or_false] at he
  rcases he with rfl | rfl | rfl | rfl
  · exact skCrc0 H
  · exact skCrc1 H
  · exact skCrc2 H
  · exact skCrc3 H) knownSb_good
noncomputable def knownSd : Ov := ovAdd 69 (onceOv knownSc Tryz.prog (Gof tab) 100000 300) knownSc
theorem knownSd_good : OvGoodK Tryz.prog (Gof tab) knownSd := ovAdd_good (onceOv_good mixed5 plain5 knownSc_good fl_slow) knownSc_good
theorem skNew0_run : fcall knownSd Tryz.prog (Gof tab) 100000 300 12 [.int .i64 1, skC0, .nilsl] FH.empty (dimK 0) = true := by kernel_rfl
theorem skNew0 (H : AHeap) : Does Tryz.prog (Gof tab) 12 [.int .i64 1, skC0, .nilsl] H fun r h => r = .tuple [.vptr [], .int .i64 0] ∧ h = H := dim_does mixed5 plain5 knownSd_good gof_tab5 (by kernel_rfl) skNew0_run H
theorem skNew1_run : fcall knownSd Tryz.prog (Gof tab) 100000 300 12 [.int .i64 1, skC1, .nilsl] FH.empty (dimK 0) = true := by kernel_rfl
theorem skNew1 (H : AHeap) : Does Tryz.prog (Gof tab) 12 [.int .i64 1, skC1, .nilsl] H fun r h => r = .tuple [.vptr [], .int .i64 0] ∧ h = H := dim_does mixed5 plain5 knownSd_good gof_tab5 (by kernel_rfl) skNew1_run H
noncomputable def knownSe : Ov := ovAdd 12 (altOv [([.int .i64 1, skC0, .nilsl], .tuple [.vptr [], .int .i64 0]), ([.int .i64 1, skC1, .nilsl], .tuple [.vptr [], .int .i64 0])] knownSd Tryz.prog (Gof tab) 100000 300 12) knownSd
theorem knownSe_good : OvGoodK Tryz.prog (Gof tab) knownSe := ovAdd_good (altOv_good mixed5 plain5 knownSd_good fun e he H => by
  simp only [List.mem_cons, List.not_mem_nil, or_false] at he
  rcases he with rfl | rfl
  · exact skNew0 H
  · exact skNew1 H) knownSd_good
def skA1 : AV := .tuple [.str [], .int .i64 7]
theorem skRun1_run : fcall knownSe Tryz.prog (Gof tab) 100000 300 6 [.str skT1] FH.empty (litK skA1) = true := by kernel_rfl
theorem skRun1 (H : AHeap) : Does Tryz.prog (Gof tab) 6 [.str skT1] H fun r h => r = skA1 ∧ h = H := lit_does mixed5 plain5 knownSe_good gof_tab5 (by kernel_rfl) (by kernel_rfl) skRun1_run H
def skA2 : AV := .tuple [.str [102,97,117,108,116,32,49,50,32,51,49,10], .int .i64 0]
theorem skRun2_run : fcall knownSe Tryz.prog (Gof tab) 100000 300 6 [.str skT2] FH.empty (litK skA2) = true := by kernel_rfl
theorem skRun2 (H : AHeap) : Does Tryz.prog (Gof tab) 6 [.str skT2] H fun r h => r = skA2 ∧ h = H := lit_does mixed5 plain5 knownSe_good gof_tab5 (by kernel_rfl) (by kernel_rfl) skRun2_run H
def skA3 : AV := .tuple [.str [], .int .i64 7]
theorem skRun3_run : fcall knownSe Tryz.prog (Gof tab) 100000 300 6 [.str skT3] FH.empty (litK skA3) = true := by kernel_rfl
theorem skRun3 (H : AHeap) : Does Tryz.prog (Gof tab) 6 [.str skT3] H fun r h => r = skA3 ∧ h = H := lit_does mixed5 plain5 knownSe_good gof_tab5 (by kernel_rfl) (by kernel_rfl) skRun3_run H
end Go.Proofs.YtajcehcdmbfhaaaGreatDoor
