/-
  Own library of this claim, part 40: texts one behind the other (SfD2).
-/
import Derived.Test.YtajcehcdmbfhaaaGreatDoorLibScriptFormsW
set_option linter.unusedVariables false
set_option linter.unusedSimpArgs false

/-
  Scripts of ScriptForms, played: closed calls, said by the evaluator.
-/

namespace Go.Proofs.YtajcehcdmbfhaaaGreatDoor
open Go Go.Abs Go.RowKit
set_option maxRecDepth 100000

def sfA6 : List UInt8 := [111,107,10,111,107,10]
theorem sfRun6 : fcall knownT0 Tryz.prog (Gof tab) 100000 300 6 [.str sfT6] FH.empty (litK (.tuple [.str sfA6, .int .i64 0])) = true := by kernel_rfl
theorem sfG6 (H : AHeap) : Does Tryz.prog (Gof tab) 6 [.str sfT6] H fun r h => r = .tuple [.str sfA6, .int .i64 0] ∧ h = H := lit_does mixed5 plain5 knownT0_good gof_tab5 (by kernel_rfl) (by kernel_rfl) sfRun6 H
def sfA7 : List UInt8 := [111,107,10,111,107,10]
theorem sfRun7 : fcall knownT0 Tryz.prog (Gof tab) 100000 300 6 [.str sfT7] FH.empty (litK (.tuple [.str sfA7, .int .i64 0])) = true := by kernel_rfl
theorem sfG7 (H : AHeap) : Does Tryz.prog (Gof tab) 6 [.str sfT7] H fun r h => r = .tuple [.str sfA7, .int .i64 0] ∧ h = H := lit_does mixed5 plain5 knownT0_good gof_tab5 (by kernel_rfl) (by kernel_rfl) sfRun7 H
def sfA8 : List UInt8 := [111,107,10]
theorem sfRun8 : fcall knownT0 Tryz.prog (Gof tab) 100000 300 6 [.str sfT8] FH.empty (litK (.tuple [.str sfA8, .int .i64 0])) = true := by kernel_rfl
theorem sfG8 (H : AHeap) : Does Tryz.prog (Gof tab) 6 [.str sfT8] H fun r h => r = .tuple [.str sfA8, .int .i64 0] ∧ h = H := lit_does mixed5 plain5 knownT0_good gof_tab5 (by kernel_rfl) (by kernel_rfl) sfRun8 H
end Go.Proofs.YtajcehcdmbfhaaaGreatDoor
