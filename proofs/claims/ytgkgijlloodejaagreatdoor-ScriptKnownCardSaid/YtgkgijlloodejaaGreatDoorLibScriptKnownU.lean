/-
  Own library of this claim, part 21: texts one behind the other (SkH).
-/
import Derived.Test.YtgkgijlloodejaaGreatDoorLibScriptKnownS
set_option linter.unusedVariables false
set_option linter.unusedSimpArgs false

/-
  A script of a fleet, run: a closed call, said by the evaluator.
-/

namespace Go.Proofs.YtgkgijlloodejaaGreatDoor
open Go Go.Abs Go.RowKit
set_option maxRecDepth 100000

def skA4 : AV := .tuple [.str [111,107,10,111,107,10,111,107,10,48,58,32,53,10,49,58,32,45,50,10,48,10,101,114,114,111,114,32,53,10,101,114,114,111,114,32,49,10], .int .i64 0]
theorem skRun4_run : fcall knownSe Tryz.prog (Gof tab) 100000 300 5 [.str skT4] FH.empty (litK skA4) = true := by kernel_rfl
theorem skRun4 (H : AHeap) : Does Tryz.prog (Gof tab) 5 [.str skT4] H fun r h => r = skA4 ∧ h = H := lit_does mixed5 plain5 knownSe_good gof_tab5 (by kernel_rfl) (by kernel_rfl) skRun4_run H
end Go.Proofs.YtgkgijlloodejaaGreatDoor
