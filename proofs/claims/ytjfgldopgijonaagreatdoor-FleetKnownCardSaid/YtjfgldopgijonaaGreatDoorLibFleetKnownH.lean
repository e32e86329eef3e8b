/-
  Own library of this claim, part 8: texts one behind the other.
-/
import Derived.Test.YtjfgldopgijonaaGreatDoorLibFleetKnownG
set_option maxRecDepth 100000
set_option maxHeartbeats 8000000
set_option linter.unusedVariables false
set_option linter.unusedSimpArgs false
namespace Go.Proofs.YtjfgldopgijonaaGreatDoor
open Go Go.Abs Go.RowKit
def rcrc0 : AV := .vsl [.int .u8 9,.int .u8 0,.int .u8 0,.int .u8 0,.int .u8 0,.int .u8 0,.int .u8 0,.int .u8 0,.int .u8 0,.int .u8 0,.int .u8 0,.int .u8 0,.int .u8 1,.int .u8 7,.int .u8 0,.int .u8 1,.int .u8 1,.int .u8 1,.int .u8 0,.int .u8 0,.int .u8 0] 21
theorem rcrc0d_run : fcall knownP Tryz.prog (Gof tab) 100000 300 345 [rcrc0] FH.empty (litK (.int .u32 2819805001)) = true := by kernel_rfl
theorem rcrc0d (H : AHeap) : Does Tryz.prog (Gof tab) 345 [rcrc0] H fun r h => r = (.int .u32 2819805001) /\ h = H :=
 zaS mixed5 plain5 zar zaT (by kernel_rfl) (by kernel_rfl) rcrc0d_run H
def rcrc1 : AV := .vsl [.int .u8 9,.int .u8 0,.int .u8 0,.int .u8 0,.int .u8 1,.int .u8 0,.int .u8 0,.int .u8 0,.int .u8 0,.int .u8 0,.int .u8 0,.int .u8 0,.int .u8 2,.int .u8 7,.int .u8 0,.int .u8 1,.int .u8 2,.int .u8 1,.int .u8 0,.int .u8 0,.int .u8 0] 21
theorem rcrc1d_run : fcall knownP Tryz.prog (Gof tab) 100000 300 345 [rcrc1] FH.empty (litK (.int .u32 1368998431)) = true := by kernel_rfl
theorem rcrc1d (H : AHeap) : Does Tryz.prog (Gof tab) 345 [rcrc1] H fun r h => r = (.int .u32 1368998431) /\ h = H :=
 zaS mixed5 plain5 zar zaT (by kernel_rfl) (by kernel_rfl) rcrc1d_run H
def rcrc2 : AV := .vsl [.int .u8 14,.int .u8 0,.int .u8 0,.int .u8 0,.int .u8 2,.int .u8 0,.int .u8 0,.int .u8 0,.int .u8 0,.int .u8 0,.int .u8 0,.int .u8 0,.int .u8 3,.int .u8 12,.int .u8 0,.int .u8 1,.int .u8 3,.int .u8 0,.int .u8 0,.int .u8 0,.int .u8 1,.int .u8 4,.int .u8 1,.int .u8 0,.int .u8 1,.int .u8 10] 26
theorem rcrc2d_run : fcall knownP Tryz.prog (Gof tab) 100000 300 345 [rcrc2] FH.empty (litK (.int .u32 1485288707)) = true := by kernel_rfl
theorem rcrc2d (H : AHeap) : Does Tryz.prog (Gof tab) 345 [rcrc2] H fun r h => r = (.int .u32 1485288707) /\ h = H :=
 zaS mixed5 plain5 zar zaT (by kernel_rfl) (by kernel_rfl) rcrc2d_run H
def rcrc3 : AV := .vsl [.int .u8 22,.int .u8 0,.int .u8 0,.int .u8 0,.int .u8 1,.int .u8 0,.int .u8 0,.int .u8 0,.int .u8 0,.int .u8 0,.int .u8 0,.int .u8 0,.int .u8 3,.int .u8 12,.int .u8 0,.int .u8 1,.int .u8 4,.int .u8 1,.int .u8 1,.int .u8 1,.int .u8 1,.int .u8 4,.int .u8 1,.int .u8 0,.int .u8 1,.int .u8 10,.int .u8 1,.int .u8 6,.int .u8 1,.int .u8 4,.int .u8 10,.int .u8 2,.int .u8 2,.int .u8 2] 34
theorem rcrc3d_run : fcall knownP Tryz.prog (Gof tab) 100000 300 345 [rcrc3] FH.empty (litK (.int .u32 1560172438)) = true := by kernel_rfl
theorem rcrc3d (H : AHeap) : Does Tryz.prog (Gof tab) 345 [rcrc3] H fun r h => r = (.int .u32 1560172438) /\ h = H :=
 zaS mixed5 plain5 zar zaT (by kernel_rfl) (by kernel_rfl) rcrc3d_run H
end Go.Proofs.YtjfgldopgijonaaGreatDoor
