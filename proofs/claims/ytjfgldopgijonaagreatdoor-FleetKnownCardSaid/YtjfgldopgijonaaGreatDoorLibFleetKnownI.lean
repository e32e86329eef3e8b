/-
  Own library of this claim, part 9: texts one behind the other.
-/
import Derived.Test.YtjfgldopgijonaaGreatDoorLibFleetKnownH
set_option maxRecDepth 100000
set_option maxHeartbeats 8000000
set_option linter.unusedVariables false
set_option linter.unusedSimpArgs false
namespace Go.Proofs.YtjfgldopgijonaaGreatDoor
open Go Go.Abs Go.RowKit
def rsta0 : AV := .vsl [.int .u8 0,.int .u8 4,.int .u8 0,.int .u8 0,.int .u8 0,.int .u8 0] 6
def rdig0 : AV := .agg [.int .u8 184,.int .u8 26,.int .u8 149,.int .u8 68,.int .u8 188,.int .u8 21,.int .u8 57,.int .u8 71,.int .u8 25,.int .u8 14,.int .u8 101,.int .u8 74,.int .u8 115,.int .u8 214,.int .u8 205,.int .u8 127,.int .u8 149,.int .u8 1,.int .u8 45,.int .u8 225,.int .u8 186,.int .u8 36,.int .u8 148,.int .u8 50,.int .u8 36,.int .u8 235,.int .u8 227,.int .u8 56,.int .u8 129,.int .u8 42,.int .u8 80,.int .u8 22]
theorem rsha0_run : fcall knownP Tryz.prog (Gof tab) 100000 300 261 [rsta0] FH.empty (litK rdig0) = true := by kernel_rfl
theorem rsha0 (H : AHeap) : Does Tryz.prog (Gof tab) 261 [rsta0] H fun r h => r = rdig0 /\ h = H :=
 zaS mixed5 plain5 zar zaT (by kernel_rfl) (by kernel_rfl) rsha0_run H
end Go.Proofs.YtjfgldopgijonaaGreatDoor
