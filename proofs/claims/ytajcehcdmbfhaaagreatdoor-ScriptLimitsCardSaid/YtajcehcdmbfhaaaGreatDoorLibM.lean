/-
  Own library of this claim, part 13: texts one behind the other (SkG).
-/
import Derived.Test.YtajcehcdmbfhaaaGreatDoorLibL
set_option linter.unusedVariables false
set_option linter.unusedSimpArgs false

/-
  A script that asks what a program means, run: a closed call, said by the evaluator.
-/

namespace Go.Proofs.YtajcehcdmbfhaaaGreatDoor
open Go Go.Abs Go.RowKit
set_option maxRecDepth 100000

def skA0 : AV := .tuple [.str [54,10,55,10], .int .i64 0]
theorem skRun0_run : fcall knownSe Tryz.prog (Gof tab) 100000 300 6 [.str skT0] FH.empty (litK skA0) = true := by kernel_rfl
theorem skRun0 (H : AHeap) : Does Tryz.prog (Gof tab) 6 [.str skT0] H fun r h => r = skA0 ∧ h = H := lit_does mixed5 plain5 knownSe_good gof_tab5 (by kernel_rfl) (by kernel_rfl) skRun0_run H
end Go.Proofs.YtajcehcdmbfhaaaGreatDoor
