/-
  Own library of this claim, part 11: texts one behind the other.
-/
import Derived.Test.YtekbjlihciedjaaGreatDoorLibRepRefusesJ
set_option maxRecDepth 100000
set_option maxHeartbeats 8000000
set_option linter.unusedVariables false
set_option linter.unusedSimpArgs false
namespace Go.Proofs.YtekbjlihciedjaaGreatDoor
open Go Go.Abs Go.RowKit
noncomputable def knownR1 : Ov := ovAdd 41 (litOv [([rtext], rcomp)]) knownP
theorem knownR1_good : zaW Tryz.prog (Gof tab) knownR1 := ovAdd_good (litOv_good fun e he H => by
 simp only [List.mem_cons, List.not_mem_nil, or_false] at he
 rcases he with rfl
 · exact rcompile H) za1
noncomputable def knownR2 : Ov := ovAdd 54 (resOv [([rprog], (.tuple [.agg [.int .i64 0,.int .i64 0],.bool true])), ([rbad], rbadA)]) knownR1
theorem knownR2_good : zaW Tryz.prog (Gof tab) knownR2 := ovAdd_good (resOv_good fun e he H => by
 simp only [List.mem_cons, List.not_mem_nil, or_false] at he
 rcases he with rfl | rfl
 · exact rvalid H
 · exact rvalid2 H) knownR1_good
noncomputable def knownR3 : Ov := ovAdd 73 (resOv [([rsta0], rdig0), ([rsta1], rdig1)]) knownR2
theorem knownR3_good : zaW Tryz.prog (Gof tab) knownR3 := ovAdd_good (resOv_good fun e he H => by
 simp only [List.mem_cons, List.not_mem_nil, or_false] at he
 rcases he with rfl | rfl
 · exact rsha0 H
 · exact rsha1 H) knownR2_good
noncomputable def knownR4 : Ov := ovAdd 212 (resOv [([rcrc0], (.int .u32 2819805001)), ([rcrc1], (.int .u32 1368998431)), ([rcrc2], (.int .u32 1485288707)), ([rcrc3], (.int .u32 1560172438))]) knownR3
theorem knownR4_good : zaW Tryz.prog (Gof tab) knownR4 := ovAdd_good (resOv_good fun e he H => by
 simp only [List.mem_cons, List.not_mem_nil, or_false] at he
 rcases he with rfl | rfl | rfl | rfl
 · exact rcrc0d H
 · exact rcrc1d H
 · exact rcrc2d H
 · exact rcrc3d H) knownR3_good
theorem rawake_run : fcall knownR4 Tryz.prog (Gof tab) 100000 300 6 [] FH.empty (litK (.bool true)) = true := by kernel_rfl
theorem rawake (H : AHeap) : Does Tryz.prog (Gof tab) 6 [] H fun r h => r = (.bool true) /\ h = H :=
 zaR mixed5 plain5 knownR4_good zaF (by kernel_rfl) (by kernel_rfl) rawake_run H
end Go.Proofs.YtekbjlihciedjaaGreatDoor
