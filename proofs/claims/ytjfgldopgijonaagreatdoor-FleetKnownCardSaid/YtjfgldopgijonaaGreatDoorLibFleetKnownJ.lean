/-
  Own library of this claim, part 10: texts one behind the other.
-/
import Derived.Test.YtjfgldopgijonaaGreatDoorLibFleetKnownI
set_option maxRecDepth 100000
set_option maxHeartbeats 8000000
set_option linter.unusedVariables false
set_option linter.unusedSimpArgs false
namespace Go.Proofs.YtjfgldopgijonaaGreatDoor
open Go Go.Abs Go.RowKit
def rsta1 : AV := .vsl [.int .u8 1,.int .u8 4,.int .u8 10,.int .u8 2,.int .u8 2,.int .u8 2] 6
def rdig1 : AV := .agg [.int .u8 193,.int .u8 226,.int .u8 21,.int .u8 229,.int .u8 181,.int .u8 175,.int .u8 142,.int .u8 116,.int .u8 221,.int .u8 104,.int .u8 8,.int .u8 255,.int .u8 23,.int .u8 184,.int .u8 33,.int .u8 11,.int .u8 231,.int .u8 174,.int .u8 101,.int .u8 68,.int .u8 70,.int .u8 63,.int .u8 132,.int .u8 26,.int .u8 162,.int .u8 253,.int .u8 14,.int .u8 251,.int .u8 183,.int .u8 128,.int .u8 155,.int .u8 156]
theorem rsha1_run : fcall knownP Tryz.prog (Gof tab) 100000 300 261 [rsta1] FH.empty (litK rdig1) = true := by kernel_rfl
theorem rsha1 (H : AHeap) : Does Tryz.prog (Gof tab) 261 [rsta1] H fun r h => r = rdig1 /\ h = H :=
 zaS mixed5 plain5 zar zaT (by kernel_rfl) (by kernel_rfl) rsha1_run H
end Go.Proofs.YtjfgldopgijonaaGreatDoor
