/-
  Own library of this claim, part 8: texts one behind the other (SkD0).
-/
import Derived.Test.YtajcehcdmbfhaaaGreatDoorLibD
set_option linter.unusedVariables false
set_option linter.unusedSimpArgs false

/-
  A state's digest: a closed call, said by the evaluator.
-/


namespace Go.Proofs.YtajcehcdmbfhaaaGreatDoor
open Go Go.Abs Go.RowKit
set_option maxRecDepth 100000

def skSt0 : AV := .vsl [.int .u8 0,.int .u8 0] 2
def skDg0 : AV := .agg [.int .u8 150,.int .u8 162,.int .u8 150,.int .u8 210,.int .u8 36,.int .u8 242,.int .u8 133,.int .u8 198,.int .u8 123,.int .u8 238,.int .u8 147,.int .u8 195,.int .u8 15,.int .u8 138,.int .u8 48,.int .u8 145,.int .u8 87,.int .u8 240,.int .u8 218,.int .u8 163,.int .u8 93,.int .u8 197,.int .u8 184,.int .u8 126,.int .u8 65,.int .u8 11,.int .u8 120,.int .u8 99,.int .u8 10,.int .u8 9,.int .u8 207,.int .u8 199]
theorem skSha0_run : fcall knownP Tryz.prog (Gof tab) 100000 300 346 [skSt0] FH.empty (litK skDg0) = true := by kernel_rfl
theorem skSha0 (H : AHeap) : Does Tryz.prog (Gof tab) 346 [skSt0] H fun r h => r = skDg0 ∧ h = H := lit_does mixed5 plain5 knownP_good gof_tab5 (by kernel_rfl) (by kernel_rfl) skSha0_run H
end Go.Proofs.YtajcehcdmbfhaaaGreatDoor
