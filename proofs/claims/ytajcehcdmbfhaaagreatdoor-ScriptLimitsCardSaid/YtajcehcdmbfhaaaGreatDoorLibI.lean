/-
  Own library of this claim, part 9: texts one behind the other (SkD1).
-/
import Derived.Test.YtajcehcdmbfhaaaGreatDoorLibD
set_option linter.unusedVariables false
set_option linter.unusedSimpArgs false

/-
  A state's digest: a closed call, said by the evaluator.
-/


namespace Go.Proofs.YtajcehcdmbfhaaaGreatDoor
open Go Go.Abs Go.RowKit
set_option maxRecDepth 100000

def skSt1 : AV := .vsl [.int .u8 0,.int .u8 2,.int .u8 0,.int .u8 0] 4
def skDg1 : AV := .agg [.int .u8 188,.int .u8 56,.int .u8 23,.int .u8 193,.int .u8 59,.int .u8 196,.int .u8 230,.int .u8 241,.int .u8 146,.int .u8 168,.int .u8 64,.int .u8 137,.int .u8 95,.int .u8 169,.int .u8 55,.int .u8 210,.int .u8 82,.int .u8 219,.int .u8 21,.int .u8 62,.int .u8 251,.int .u8 137,.int .u8 187,.int .u8 20,.int .u8 166,.int .u8 194,.int .u8 221,.int .u8 241,.int .u8 249,.int .u8 197,.int .u8 84,.int .u8 9]
theorem skSha1_run : fcall knownP Tryz.prog (Gof tab) 100000 300 346 [skSt1] FH.empty (litK skDg1) = true := by kernel_rfl
theorem skSha1 (H : AHeap) : Does Tryz.prog (Gof tab) 346 [skSt1] H fun r h => r = skDg1 ∧ h = H := lit_does mixed5 plain5 knownP_good gof_tab5 (by kernel_rfl) (by kernel_rfl) skSha1_run H
end Go.Proofs.YtajcehcdmbfhaaaGreatDoor
