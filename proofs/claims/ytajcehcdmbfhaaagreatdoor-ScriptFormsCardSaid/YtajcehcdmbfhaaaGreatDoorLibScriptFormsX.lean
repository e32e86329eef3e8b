/-
  Own library of this claim, part 38: texts one behind the other (SfD0).
-/
import Derived.Test.YtajcehcdmbfhaaaGreatDoorLibScriptFormsW
set_option linter.unusedVariables false
set_option linter.unusedSimpArgs false

/-
  Scripts of ScriptForms, played: closed calls, said by the evaluator.
-/

namespace Go.Proofs.YtajcehcdmbfhaaaGreatDoor
open Go Go.Abs Go.RowKit
set_option maxRecDepth 100000

def sfA0 : List UInt8 := [111,107,10,111,107,10]
theorem sfRun0 : fcall knownT0 Tryz.prog (Gof tab) 100000 300 6 [.str sfT0] FH.empty (litK (.tuple [.str sfA0, .int .i64 0])) = true := by kernel_rfl
theorem sfG0 (H : AHeap) : Does Tryz.prog (Gof tab) 6 [.str sfT0] H fun r h => r = .tuple [.str sfA0, .int .i64 0] ∧ h = H := lit_does mixed5 plain5 knownT0_good gof_tab5 (by kernel_rfl) (by kernel_rfl) sfRun0 H
def sfA1 : List UInt8 := [111,107,10,111,107,10]
theorem sfRun1 : fcall knownT0 Tryz.prog (Gof tab) 100000 300 6 [.str sfT1] FH.empty (litK (.tuple [.str sfA1, .int .i64 0])) = true := by kernel_rfl
theorem sfG1 (H : AHeap) : Does Tryz.prog (Gof tab) 6 [.str sfT1] H fun r h => r = .tuple [.str sfA1, .int .i64 0] ∧ h = H := lit_does mixed5 plain5 knownT0_good gof_tab5 (by kernel_rfl) (by kernel_rfl) sfRun1 H
def sfA2 : List UInt8 := [111,107,10,101,114,114,111,114,32,53,10]
theorem sfRun2 : fcall knownT0 Tryz.prog (Gof tab) 100000 300 6 [.str sfT2] FH.empty (litK (.tuple [.str sfA2, .int .i64 0])) = true := by kernel_rfl
theorem sfG2 (H : AHeap) : Does Tryz.prog (Gof tab) 6 [.str sfT2] H fun r h => r = .tuple [.str sfA2, .int .i64 0] ∧ h = H := lit_does mixed5 plain5 knownT0_good gof_tab5 (by kernel_rfl) (by kernel_rfl) sfRun2 H
end Go.Proofs.YtajcehcdmbfhaaaGreatDoor
