/-
  Own library of this claim, part 5: texts one behind the other.
-/
import Derived.Test.YtjfgldopgijonaaGreatDoorLibFleetKnownD
set_option maxRecDepth 100000
set_option maxHeartbeats 8000000
set_option linter.unusedVariables false
set_option linter.unusedSimpArgs false
namespace Go.Proofs.YtjfgldopgijonaaGreatDoor
open Go Go.Abs Go.RowKit
def rbad : AV := .agg [.nilsl,.vsl [.int .i64 2] 1,.nilsl,.nilsl,.nilsl,.nilsl]
def rbadA : AV := .tuple [.agg [.int .i64 0, .int .i64 5], .bool false]
theorem rvalid_run : fcall knownP Tryz.prog (Gof tab) 100000 300 22 [rprog] FH.empty (litK (.tuple [.agg [.int .i64 0,.int .i64 0],.bool true])) = true := by kernel_rfl
theorem rvalid (H : AHeap) : Does Tryz.prog (Gof tab) 22 [rprog] H fun r h => r = (.tuple [.agg [.int .i64 0,.int .i64 0],.bool true]) /\ h = H :=
 zaS mixed5 plain5 zar zaT (by kernel_rfl) (by kernel_rfl) rvalid_run H
theorem rvalid2_run : fcall knownP Tryz.prog (Gof tab) 100000 300 22 [rbad] FH.empty (litK rbadA) = true := by kernel_rfl
theorem rvalid2 (H : AHeap) : Does Tryz.prog (Gof tab) 22 [rbad] H fun r h => r = rbadA /\ h = H :=
 zaS mixed5 plain5 zar zaT (by kernel_rfl) (by kernel_rfl) rvalid2_run H
end Go.Proofs.YtjfgldopgijonaaGreatDoor
