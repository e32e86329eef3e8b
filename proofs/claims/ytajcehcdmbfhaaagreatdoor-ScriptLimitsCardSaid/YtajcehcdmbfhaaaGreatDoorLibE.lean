/-
  Own library of this claim, part 5: texts one behind the other (SkB).
-/
import Derived.Test.YtajcehcdmbfhaaaGreatDoorLibD
set_option linter.unusedVariables false
set_option linter.unusedSimpArgs false

/-
  The script's programs compiled: closed calls, said by the evaluator.
-/



namespace Go.Proofs.YtajcehcdmbfhaaaGreatDoor
open Go Go.Abs Go.RowKit
set_option maxRecDepth 100000

def skP : AV → AV
  | .tuple (p :: _) => p
  | _ => .nilptr

def skC0 : AV := .agg [.vsl [.int .i64 2] 1,.vsl [.int .i64 2] 1,.vsl [.int .i64 2,.int .i64 2,.int .i64 2,.int .i64 2] 4,.nilsl,.vsl [.int .i64 1] 1,.vsl [.int .i64 4,.int .i64 0,.int .i64 0,.int .i64 0,.int .i64 0,.int .i64 2,.int .i64 0,.int .i64 0,.int .i64 8,.int .i64 3,.int .i64 0,.int .i64 2,.int .i64 1,.int .i64 1,.int .i64 3,.int .i64 0,.int .i64 5,.int .i64 0,.int .i64 1,.int .i64 0] 5]
def skD0 : AV := .tuple [skC0, .agg [.int .i64 0, .int .i64 0]]
theorem skComp0_run : fcall knownS1 Tryz.prog (Gof tab) 100000 300 10 [skP skR0] FH.empty (litK skD0) = true := by kernel_rfl
theorem skComp0 (H : AHeap) : Does Tryz.prog (Gof tab) 10 [skP skR0] H fun r h => r = skD0 ∧ h = H :=
  lit_does mixed5 plain5 knownS1_good gof_tab5 rfl (by kernel_rfl) skComp0_run H

def skC1 : AV := .agg [.vsl [.int .i64 2] 1,.vsl [.int .i64 2] 1,.vsl [.int .i64 2,.int .i64 2,.int .i64 2,.int .i64 2,.int .i64 1,.int .i64 2,.int .i64 2,.int .i64 1] 8,.vsl [.int .i64 2,.int .i64 1] 2,.vsl [.int .i64 0,.int .i64 1] 2,.vsl [.int .i64 2,.int .i64 3,.int .i64 0,.int .i64 0,.int .i64 2,.int .i64 4,.int .i64 1,.int .i64 0,.int .i64 4,.int .i64 0,.int .i64 0,.int .i64 0,.int .i64 0,.int .i64 2,.int .i64 0,.int .i64 0,.int .i64 19,.int .i64 7,.int .i64 4,.int .i64 0,.int .i64 1,.int .i64 5,.int .i64 3,.int .i64 0,.int .i64 20,.int .i64 8,.int .i64 0,.int .i64 0,.int .i64 1,.int .i64 5,.int .i64 2,.int .i64 0,.int .i64 8,.int .i64 6,.int .i64 0,.int .i64 5,.int .i64 1,.int .i64 1,.int .i64 6,.int .i64 0,.int .i64 3,.int .i64 0,.int .i64 1,.int .i64 0,.int .i64 0,.int .i64 7,.int .i64 1,.int .i64 0,.int .i64 3,.int .i64 1,.int .i64 7,.int .i64 0,.int .i64 5,.int .i64 0,.int .i64 1,.int .i64 0] 14]
def skD1 : AV := .tuple [skC1, .agg [.int .i64 0, .int .i64 0]]
theorem skComp1_run : fcall knownS1 Tryz.prog (Gof tab) 100000 300 10 [skP skR1] FH.empty (litK skD1) = true := by kernel_rfl
theorem skComp1 (H : AHeap) : Does Tryz.prog (Gof tab) 10 [skP skR1] H fun r h => r = skD1 ∧ h = H :=
  lit_does mixed5 plain5 knownS1_good gof_tab5 rfl (by kernel_rfl) skComp1_run H

def skC2 : AV := .agg [.nilsl,.nilsl,.nilsl,.nilsl,.nilsl,.nilsl]
def skD2 : AV := .tuple [skC2, .agg [.int .i64 12, .int .i64 31]]
theorem skComp2_run : fcall knownS1 Tryz.prog (Gof tab) 100000 300 10 [skP skR2] FH.empty (litK skD2) = true := by kernel_rfl
theorem skComp2 (H : AHeap) : Does Tryz.prog (Gof tab) 10 [skP skR2] H fun r h => r = skD2 ∧ h = H :=
  lit_does mixed5 plain5 knownS1_good gof_tab5 rfl (by kernel_rfl) skComp2_run H

theorem skVal0_run : fcall knownS1 Tryz.prog (Gof tab) 100000 300 28 [skC0] FH.empty (litK (.tuple [.agg [.int .i64 0,.int .i64 0],.bool true])) = true := by kernel_rfl
theorem skVal0 (H : AHeap) : Does Tryz.prog (Gof tab) 28 [skC0] H fun r h => r = (.tuple [.agg [.int .i64 0,.int .i64 0],.bool true]) ∧ h = H :=
  lit_does mixed5 plain5 knownS1_good gof_tab5 (by kernel_rfl) (by kernel_rfl) skVal0_run H

theorem skVal1_run : fcall knownS1 Tryz.prog (Gof tab) 100000 300 28 [skC1] FH.empty (litK (.tuple [.agg [.int .i64 0,.int .i64 0],.bool true])) = true := by kernel_rfl
theorem skVal1 (H : AHeap) : Does Tryz.prog (Gof tab) 28 [skC1] H fun r h => r = (.tuple [.agg [.int .i64 0,.int .i64 0],.bool true]) ∧ h = H :=
  lit_does mixed5 plain5 knownS1_good gof_tab5 (by kernel_rfl) (by kernel_rfl) skVal1_run H

noncomputable def knownS2 : Ov := ovAdd 10 (litOv [([skP skR0], skD0), ([skP skR1], skD1), ([skP skR2], skD2)]) knownS1
theorem knownS2_good : OvGoodK Tryz.prog (Gof tab) knownS2 := ovAdd_good (litOv_good fun e he H => by
  simp only [List.mem_cons, List.not_mem_nil, or_false] at he
  rcases he with rfl | rfl | rfl
  · exact skComp0 H
  · exact skComp1 H
  · exact skComp2 H) knownS1_good
noncomputable def knownS3 : Ov := ovAdd 28 (lentOv [([skC0], (.tuple [.agg [.int .i64 0,.int .i64 0],.bool true])), ([skC1], (.tuple [.agg [.int .i64 0,.int .i64 0],.bool true]))]) knownS2
theorem knownS3_good : OvGoodK Tryz.prog (Gof tab) knownS3 := ovAdd_good (lentOv_good fun e he H => by
  simp only [List.mem_cons, List.not_mem_nil, or_false] at he
  rcases he with rfl | rfl
  · exact skVal0 H
  · exact skVal1 H) knownS2_good
noncomputable def knownS4 : Ov := ovAdd 154 (loadOv .u32) knownS3
theorem knownS4_good : OvGoodK Tryz.prog (Gof tab) knownS4 := ovAdd_good (loadOv_good fl_load32) knownS3_good
noncomputable def knownS5 : Ov := ovAdd 160 (addOv .i64) knownS4
theorem knownS5_good : OvGoodK Tryz.prog (Gof tab) knownS5 := ovAdd_good (addOv_good fl_add64) knownS4_good
end Go.Proofs.YtajcehcdmbfhaaaGreatDoor
