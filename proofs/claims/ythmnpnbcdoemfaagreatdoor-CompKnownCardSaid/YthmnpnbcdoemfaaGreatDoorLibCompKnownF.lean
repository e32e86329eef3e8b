/-
  Own library of this claim, part 6: texts one behind the other (CkK).
-/
import Derived.Test.YthmnpnbcdoemfaaGreatDoorLibCompKnownE

/-
  CompKnown's closed calls, each said by the evaluator for itself: what comp.Compile, code.Encode and comp.Bytes answer.
-/


namespace Go.Proofs.YthmnpnbcdoemfaaGreatDoor
open Go Go.Abs Go.RowKit
set_option maxRecDepth 100000

def ctext1 : AV := .str [110,111,100,101,32,102,40,120,58,32,105,110,116,41,32,114,101,116,117,114,110,115,32,40,121,58,32,105,110,116,41,59,32,108,101,116,32,121,32,61,32,48,32,45,62,32,112,114,101,32,120,59,32,116,101,108]
def ctext2 : AV := .str [110,111,100,101,32,102,40,41,32,114,101,116,117,114,110,115,32,40,121,58,32,105,110,116,41,59,32,108,101,116,32,121,32,61,32,121,59,32,116,101,108]
def ctext3 : AV := .str [119,104,97,116]
def cprog : AV := .agg [.vsl [.int .i64 2] 1,.vsl [.int .i64 2] 1,.vsl [.int .i64 2,.int .i64 2,.int .i64 2,.int .i64 2,.int .i64 1,.int .i64 2,.int .i64 1] 7,.vsl [.int .i64 2,.int .i64 1] 2,.vsl [.int .i64 0,.int .i64 1] 2,.vsl [.int .i64 2,.int .i64 3,.int .i64 0,.int .i64 0,.int .i64 2,.int .i64 4,.int .i64 1,.int .i64 0,.int .i64 4,.int .i64 0,.int .i64 0,.int .i64 0,.int .i64 0,.int .i64 2,.int .i64 0,.int .i64 0,.int .i64 19,.int .i64 7,.int .i64 4,.int .i64 0,.int .i64 1,.int .i64 5,.int .i64 3,.int .i64 0,.int .i64 20,.int .i64 8,.int .i64 0,.int .i64 0,.int .i64 1,.int .i64 5,.int .i64 2,.int .i64 0,.int .i64 1,.int .i64 1,.int .i64 5,.int .i64 0,.int .i64 3,.int .i64 0,.int .i64 0,.int .i64 0,.int .i64 0,.int .i64 6,.int .i64 1,.int .i64 0,.int .i64 3,.int .i64 1,.int .i64 6,.int .i64 0,.int .i64 5,.int .i64 0,.int .i64 1,.int .i64 0] 13]
def clit1 : AV := .tuple [.agg [.vsl [.int .i64 2] 1,.vsl [.int .i64 2] 1,.vsl [.int .i64 2,.int .i64 2,.int .i64 2,.int .i64 2,.int .i64 1,.int .i64 2,.int .i64 1] 7,.vsl [.int .i64 2,.int .i64 1] 2,.vsl [.int .i64 0,.int .i64 1] 2,.vsl [.int .i64 2,.int .i64 3,.int .i64 0,.int .i64 0,.int .i64 2,.int .i64 4,.int .i64 1,.int .i64 0,.int .i64 4,.int .i64 0,.int .i64 0,.int .i64 0,.int .i64 0,.int .i64 2,.int .i64 0,.int .i64 0,.int .i64 19,.int .i64 7,.int .i64 4,.int .i64 0,.int .i64 1,.int .i64 5,.int .i64 3,.int .i64 0,.int .i64 20,.int .i64 8,.int .i64 0,.int .i64 0,.int .i64 1,.int .i64 5,.int .i64 2,.int .i64 0,.int .i64 1,.int .i64 1,.int .i64 5,.int .i64 0,.int .i64 3,.int .i64 0,.int .i64 0,.int .i64 0,.int .i64 0,.int .i64 6,.int .i64 1,.int .i64 0,.int .i64 3,.int .i64 1,.int .i64 6,.int .i64 0,.int .i64 5,.int .i64 0,.int .i64 1,.int .i64 0] 13],.agg [.int .i64 0,.int .i64 0]]
def clit2 : AV := .tuple [.agg [.nilsl,.nilsl,.nilsl,.nilsl,.nilsl,.nilsl],.agg [.int .i64 12,.int .i64 31]]
def cbytes : AV := .vsl [.int .u8 83,.int .u8 84,.int .u8 69,.int .u8 80,.int .u8 1,.int .u8 4,.int .u8 1,.int .u8 4,.int .u8 7,.int .u8 4,.int .u8 4,.int .u8 4,.int .u8 4,.int .u8 2,.int .u8 4,.int .u8 2,.int .u8 2,.int .u8 4,.int .u8 2,.int .u8 2,.int .u8 0,.int .u8 2,.int .u8 13,.int .u8 4,.int .u8 6,.int .u8 0,.int .u8 0,.int .u8 4,.int .u8 8,.int .u8 2,.int .u8 0,.int .u8 8,.int .u8 0,.int .u8 0,.int .u8 0,.int .u8 0,.int .u8 4,.int .u8 0,.int .u8 0,.int .u8 38,.int .u8 14,.int .u8 8,.int .u8 0,.int .u8 2,.int .u8 10,.int .u8 6,.int .u8 0,.int .u8 40,.int .u8 16,.int .u8 0,.int .u8 0,.int .u8 2,.int .u8 10,.int .u8 4,.int .u8 0,.int .u8 2,.int .u8 2,.int .u8 10,.int .u8 0,.int .u8 6,.int .u8 0,.int .u8 0,.int .u8 0,.int .u8 0,.int .u8 12,.int .u8 2,.int .u8 0,.int .u8 6,.int .u8 2,.int .u8 12,.int .u8 0,.int .u8 10,.int .u8 0,.int .u8 2,.int .u8 0,.int .u8 172,.int .u8 93,.int .u8 112,.int .u8 122] 79
def cbytes1 : AV := .tuple [cbytes, .agg [.int .i64 0,.int .i64 0]]
def cbytes3 : AV := .tuple [.nilsl,.agg [.int .i64 7,.int .i64 0]]
theorem ccomp1_run : fcall knownP Tryz.prog (Gof tab) 100000 300 9 [ctext1] FH.empty (litK clit1) = true := by kernel_rfl
theorem ccomp1 (H : AHeap) : Does Tryz.prog (Gof tab) 9 [ctext1] H fun r h => r = clit1 ∧ h = H :=
  lit_does mixed5 plain5 knownP_good gof_tab5 (by kernel_rfl) (by kernel_rfl) ccomp1_run H
theorem ccomp2_run : fcall knownP Tryz.prog (Gof tab) 100000 300 9 [ctext2] FH.empty (litK clit2) = true := by kernel_rfl
theorem ccomp2 (H : AHeap) : Does Tryz.prog (Gof tab) 9 [ctext2] H fun r h => r = clit2 ∧ h = H :=
  lit_does mixed5 plain5 knownP_good gof_tab5 (by kernel_rfl) (by kernel_rfl) ccomp2_run H
theorem cenc_run : fcall knownP Tryz.prog (Gof tab) 100000 300 15 [cprog] FH.empty (litK cbytes) = true := by kernel_rfl
theorem cenc (H : AHeap) : Does Tryz.prog (Gof tab) 15 [cprog] H fun r h => r = cbytes ∧ h = H :=
  lit_does mixed5 plain5 knownP_good gof_tab5 (by kernel_rfl) (by kernel_rfl) cenc_run H
noncomputable def knownCk : Ov := ovAdd 9 (litOv [([ctext1], clit1), ([ctext2], clit2)]) knownP
theorem knownCk_good : OvGoodK Tryz.prog (Gof tab) knownCk := ovAdd_good (litOv_good fun e he H => by
  simp only [List.mem_cons, List.not_mem_nil, or_false] at he
  rcases he with rfl | rfl
  · exact ccomp1 H
  · exact ccomp2 H) knownP_good
noncomputable def knownEk : Ov := ovAdd 15 (litOv [([cprog], cbytes)]) knownCk
theorem knownEk_good : OvGoodK Tryz.prog (Gof tab) knownEk := ovAdd_good (litOv_good fun e he H => by
  simp only [List.mem_cons, List.not_mem_nil, or_false] at he
  rcases he with rfl
  · exact cenc H) knownCk_good
theorem cbyt1_run : fcall knownEk Tryz.prog (Gof tab) 100000 300 10 [ctext1] FH.empty (litK cbytes1) = true := by kernel_rfl
theorem cbyt1 (H : AHeap) : Does Tryz.prog (Gof tab) 10 [ctext1] H fun r h => r = cbytes1 ∧ h = H :=
  lit_does mixed5 plain5 knownEk_good gof_tab5 (by kernel_rfl) (by kernel_rfl) cbyt1_run H
theorem cbyt3_run : fcall knownP Tryz.prog (Gof tab) 100000 300 10 [ctext3] FH.empty (litK cbytes3) = true := by kernel_rfl
theorem cbyt3 (H : AHeap) : Does Tryz.prog (Gof tab) 10 [ctext3] H fun r h => r = cbytes3 ∧ h = H :=
  lit_does mixed5 plain5 knownP_good gof_tab5 (by kernel_rfl) (by kernel_rfl) cbyt3_run H
noncomputable def knownBk : Ov := ovAdd 10 (litOv [([ctext1], cbytes1), ([ctext3], cbytes3)]) knownEk
theorem knownBk_good : OvGoodK Tryz.prog (Gof tab) knownBk := ovAdd_good (litOv_good fun e he H => by
  simp only [List.mem_cons, List.not_mem_nil, or_false] at he
  rcases he with rfl | rfl
  · exact cbyt1 H
  · exact cbyt3 H) knownEk_good
theorem cawake_run : fcall knownBk Tryz.prog (Gof tab) 100000 300 8 [] FH.empty (litK (.bool true)) = true := by kernel_rfl
theorem cawake (H : AHeap) : Does Tryz.prog (Gof tab) 8 [] H fun r h => r = (.bool true) ∧ h = H :=
  lit_does mixed5 plain5 knownBk_good gof_tab5 (by kernel_rfl) (by kernel_rfl) cawake_run H
noncomputable def knownXk : Ov := ovAdd 8 (litOv [([], .bool true)]) knownBk
theorem knownXk_good : OvGoodK Tryz.prog (Gof tab) knownXk := ovAdd_good (litOv_good fun e he H => by
  simp only [List.mem_cons, List.not_mem_nil, or_false] at he
  rcases he with rfl
  · exact cawake H) knownBk_good
end Go.Proofs.YthmnpnbcdoemfaaGreatDoor
