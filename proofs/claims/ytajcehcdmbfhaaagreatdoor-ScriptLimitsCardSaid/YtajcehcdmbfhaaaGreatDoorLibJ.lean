/-
  Own library of this claim, part 10: texts one behind the other (SkD2).
-/
import Derived.Test.YtajcehcdmbfhaaaGreatDoorLibD
set_option linter.unusedVariables false
set_option linter.unusedSimpArgs false

/-
  A state's digest: a closed call, said by the evaluator.
-/


namespace Go.Proofs.YtajcehcdmbfhaaaGreatDoor
open Go Go.Abs Go.RowKit
set_option maxRecDepth 100000

def skSt2 : AV := .vsl [.int .u8 1,.int .u8 2,.int .u8 10,.int .u8 2] 4
def skDg2 : AV := .agg [.int .u8 45,.int .u8 160,.int .u8 37,.int .u8 29,.int .u8 191,.int .u8 111,.int .u8 8,.int .u8 28,.int .u8 250,.int .u8 161,.int .u8 245,.int .u8 53,.int .u8 222,.int .u8 159,.int .u8 117,.int .u8 12,.int .u8 68,.int .u8 120,.int .u8 144,.int .u8 13,.int .u8 8,.int .u8 94,.int .u8 146,.int .u8 250,.int .u8 119,.int .u8 50,.int .u8 2,.int .u8 93,.int .u8 72,.int .u8 69,.int .u8 240,.int .u8 19]
theorem skSha2_run : fcall knownP Tryz.prog (Gof tab) 100000 300 346 [skSt2] FH.empty (litK skDg2) = true := by kernel_rfl
theorem skSha2 (H : AHeap) : Does Tryz.prog (Gof tab) 346 [skSt2] H fun r h => r = skDg2 ∧ h = H := lit_does mixed5 plain5 knownP_good gof_tab5 (by kernel_rfl) (by kernel_rfl) skSha2_run H
end Go.Proofs.YtajcehcdmbfhaaaGreatDoor
