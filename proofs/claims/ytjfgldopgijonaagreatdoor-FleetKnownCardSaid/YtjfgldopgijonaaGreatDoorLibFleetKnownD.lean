/-
  Own library of this claim, part 4: texts one behind the other.
-/
import Derived.Test.YtjfgldopgijonaaGreatDoorLibFleetKnownC
set_option maxRecDepth 100000
set_option maxHeartbeats 8000000
set_option linter.unusedVariables false
set_option linter.unusedSimpArgs false
namespace Go.Proofs.YtjfgldopgijonaaGreatDoor
open Go Go.Abs Go.RowKit
def rtext : AV := .str [110,111,100,101,32,102,40,120,58,32,105,110,116,41,32,114,101,116,117,114,110,115,32,40,115,44,32,110,58,32,105,110,116,41,59,32,108,101,116,32,115,32,61,32,120,32,43,32,40,48,32,102,98,121,32,115,41,59,32,110,32,61,32,49,32,43,32,40,48,32,102,98,121,32,110,41,59,32,116,101,108]
def rprog : AV := .agg [.vsl [.int .i64 2] 1,.vsl [.int .i64 2,.int .i64 2] 2,.vsl [.int .i64 2,.int .i64 2,.int .i64 2,.int .i64 2,.int .i64 2,.int .i64 1,.int .i64 2,.int .i64 2,.int .i64 2,.int .i64 2,.int .i64 2,.int .i64 1,.int .i64 2,.int .i64 2,.int .i64 1] 15,.vsl [.int .i64 2,.int .i64 1,.int .i64 2,.int .i64 1] 4,.vsl [.int .i64 0,.int .i64 1] 2,.vsl [.int .i64 2,.int .i64 4,.int .i64 0,.int .i64 0,.int .i64 2,.int .i64 5,.int .i64 1,.int .i64 0,.int .i64 2,.int .i64 10,.int .i64 2,.int .i64 0,.int .i64 2,.int .i64 11,.int .i64 3,.int .i64 0,.int .i64 4,.int .i64 0,.int .i64 0,.int .i64 0,.int .i64 0,.int .i64 3,.int .i64 0,.int .i64 0,.int .i64 19,.int .i64 9,.int .i64 5,.int .i64 0,.int .i64 1,.int .i64 6,.int .i64 4,.int .i64 0,.int .i64 20,.int .i64 10,.int .i64 0,.int .i64 0,.int .i64 1,.int .i64 6,.int .i64 3,.int .i64 0,.int .i64 8,.int .i64 7,.int .i64 0,.int .i64 6,.int .i64 1,.int .i64 1,.int .i64 7,.int .i64 0,.int .i64 0,.int .i64 8,.int .i64 1,.int .i64 0,.int .i64 0,.int .i64 9,.int .i64 0,.int .i64 0,.int .i64 19,.int .i64 17,.int .i64 11,.int .i64 0,.int .i64 1,.int .i64 12,.int .i64 10,.int .i64 0,.int .i64 20,.int .i64 18,.int .i64 0,.int .i64 0,.int .i64 1,.int .i64 12,.int .i64 9,.int .i64 0,.int .i64 8,.int .i64 13,.int .i64 8,.int .i64 12,.int .i64 1,.int .i64 2,.int .i64 13,.int .i64 0,.int .i64 3,.int .i64 0,.int .i64 1,.int .i64 0,.int .i64 3,.int .i64 2,.int .i64 2,.int .i64 0,.int .i64 0,.int .i64 14,.int .i64 1,.int .i64 0,.int .i64 3,.int .i64 1,.int .i64 14,.int .i64 0,.int .i64 3,.int .i64 3,.int .i64 14,.int .i64 0,.int .i64 5,.int .i64 0,.int .i64 1,.int .i64 0,.int .i64 5,.int .i64 1,.int .i64 2,.int .i64 0] 27]
def rcomp : AV := .tuple [rprog,.agg [.int .i64 0,.int .i64 0]]
theorem rcompile_run : fcall knownP Tryz.prog (Gof tab) 100000 300 17 [rtext] FH.empty (litK rcomp) = true := by kernel_rfl
theorem rcompile (H : AHeap) : Does Tryz.prog (Gof tab) 17 [rtext] H fun r h => r = rcomp /\ h = H :=
 zaS mixed5 plain5 zar zaT (by kernel_rfl) (by kernel_rfl) rcompile_run H
end Go.Proofs.YtjfgldopgijonaaGreatDoor
