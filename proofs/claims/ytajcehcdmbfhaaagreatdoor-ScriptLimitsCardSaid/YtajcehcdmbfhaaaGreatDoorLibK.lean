/-
  Own library of this claim, part 11: texts one behind the other (SkD3).
-/
import Derived.Test.YtajcehcdmbfhaaaGreatDoorLibD
set_option linter.unusedVariables false
set_option linter.unusedSimpArgs false

/-
  A state's digest: a closed call, said by the evaluator.
-/


namespace Go.Proofs.YtajcehcdmbfhaaaGreatDoor
open Go Go.Abs Go.RowKit
set_option maxRecDepth 100000

def skSt3 : AV := .vsl [.int .u8 2,.int .u8 2,.int .u8 3,.int .u8 2] 4
def skDg3 : AV := .agg [.int .u8 73,.int .u8 183,.int .u8 165,.int .u8 122,.int .u8 19,.int .u8 92,.int .u8 90,.int .u8 127,.int .u8 187,.int .u8 55,.int .u8 118,.int .u8 251,.int .u8 22,.int .u8 156,.int .u8 30,.int .u8 83,.int .u8 152,.int .u8 193,.int .u8 248,.int .u8 90,.int .u8 225,.int .u8 252,.int .u8 192,.int .u8 238,.int .u8 69,.int .u8 49,.int .u8 87,.int .u8 92,.int .u8 225,.int .u8 175,.int .u8 172,.int .u8 113]
theorem skSha3_run : fcall knownP Tryz.prog (Gof tab) 100000 300 346 [skSt3] FH.empty (litK skDg3) = true := by kernel_rfl
theorem skSha3 (H : AHeap) : Does Tryz.prog (Gof tab) 346 [skSt3] H fun r h => r = skDg3 ∧ h = H := lit_does mixed5 plain5 knownP_good gof_tab5 (by kernel_rfl) (by kernel_rfl) skSha3_run H
end Go.Proofs.YtajcehcdmbfhaaaGreatDoor
