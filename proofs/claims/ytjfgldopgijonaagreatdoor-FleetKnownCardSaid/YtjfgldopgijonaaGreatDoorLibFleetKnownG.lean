/-
  Own library of this claim, part 7: texts one behind the other.
-/
import Derived.Test.YtjfgldopgijonaaGreatDoorLibFleetKnownF
set_option maxRecDepth 100000
set_option maxHeartbeats 8000000
set_option linter.unusedVariables false
set_option linter.unusedSimpArgs false
namespace Go.Proofs.YtjfgldopgijonaaGreatDoor
open Go Go.Abs Go.RowKit
noncomputable def knownF0 : Ov := ovAdd 17 (litOv [([rtext], rcomp)]) knownP
theorem knownF0_good : zau Tryz.prog (Gof tab) knownF0 := zaq (litOv_good fun e he H => by
 simp only [List.mem_cons, List.not_mem_nil, or_false] at he
 rcases he with rfl
 · exact rcompile H) zar
noncomputable def knownF1 : Ov := ovAdd 22 (lentOv [([rprog], (.tuple [.agg [.int .i64 0,.int .i64 0],.bool true])), ([rbad], rbadA)]) knownF0
theorem knownF1_good : zau Tryz.prog (Gof tab) knownF1 := zaq (lentOv_good fun e he H => by
 simp only [List.mem_cons, List.not_mem_nil, or_false] at he
 rcases he with rfl | rfl
 · exact rvalid H
 · exact rvalid2 H) knownF0_good
noncomputable def knownF2 : Ov := ovAdd 98 (loadOv .u32) knownF1
theorem knownF2_good : zau Tryz.prog (Gof tab) knownF2 := zaq (loadOv_good fl_load32) knownF1_good
noncomputable def knownF3 : Ov := ovAdd 65 (loadOv .i64) knownF2
theorem knownF3_good : zau Tryz.prog (Gof tab) knownF3 := zaq (loadOv_good fl_load64) knownF2_good
noncomputable def knownF4 : Ov := ovAdd 55 (addOv .i64) knownF3
theorem knownF4_good : zau Tryz.prog (Gof tab) knownF4 := zaq (addOv_good fl_add64) knownF3_good
end Go.Proofs.YtjfgldopgijonaaGreatDoor
