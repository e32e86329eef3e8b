/-
  Own library of this claim, part 11: texts one behind the other.
-/
import Derived.Test.YtjfgldopgijonaaGreatDoorLibFleetKnownJ
set_option maxRecDepth 100000
set_option maxHeartbeats 8000000
set_option linter.unusedVariables false
set_option linter.unusedSimpArgs false
namespace Go.Proofs.YtjfgldopgijonaaGreatDoor
open Go Go.Abs Go.RowKit
noncomputable def knownF5 : Ov := ovAdd 261 (resOv [([rsta0], rdig0), ([rsta1], rdig1)]) knownF4
theorem knownF5_good : zau Tryz.prog (Gof tab) knownF5 := zaq (resOv_good fun e he H => by
 simp only [List.mem_cons, List.not_mem_nil, or_false] at he
 rcases he with rfl | rfl
 · exact rsha0 H
 · exact rsha1 H) knownF4_good
noncomputable def knownF6 : Ov := ovAdd 345 (resOv [([rcrc0], (.int .u32 2819805001)), ([rcrc1], (.int .u32 1368998431)), ([rcrc2], (.int .u32 1485288707)), ([rcrc3], (.int .u32 1560172438))]) knownF5
theorem knownF6_good : zau Tryz.prog (Gof tab) knownF6 := zaq (resOv_good fun e he H => by
 simp only [List.mem_cons, List.not_mem_nil, or_false] at he
 rcases he with rfl | rfl | rfl | rfl
 · exact rcrc0d H
 · exact rcrc1d H
 · exact rcrc2d H
 · exact rcrc3d H) knownF5_good
noncomputable def knownF7 : Ov := ovAdd 53 (onceOv knownF6 Tryz.prog (Gof tab) 100000 300) knownF6
theorem knownF7_good : zau Tryz.prog (Gof tab) knownF7 := zaq (onceOv_good mixed5 plain5 knownF6_good fl_slow) knownF6_good
theorem fawake_run : fcall knownF7 Tryz.prog (Gof tab) 100000 300 4 [] FH.empty (litK (.bool true)) = true := by kernel_rfl
theorem fawake (H : AHeap) : Does Tryz.prog (Gof tab) 4 [] H fun r h => r = (.bool true) /\ h = H :=
 zaS mixed5 plain5 knownF7_good zaT (by kernel_rfl) (by kernel_rfl) fawake_run H
noncomputable def knownXk : Ov := ovAdd 4 (litOv [([], .bool true)]) knownF7
theorem knownXk_good : zau Tryz.prog (Gof tab) knownXk := zaq (litOv_good fun e he H => by
 simp only [List.mem_cons, List.not_mem_nil, or_false] at he
 rcases he with rfl
 · exact fawake H) knownF7_good
end Go.Proofs.YtjfgldopgijonaaGreatDoor
