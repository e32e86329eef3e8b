/-
  Own library of this claim, part 41: texts one behind the other (SfD3).
-/
import Derived.Test.YtajcehcdmbfhaaaGreatDoorLibScriptFormsW
set_option linter.unusedVariables false
set_option linter.unusedSimpArgs false

/-
  Scripts of ScriptForms, played: closed calls, said by the evaluator.
-/

namespace Go.Proofs.YtajcehcdmbfhaaaGreatDoor
open Go Go.Abs Go.RowKit
set_option maxRecDepth 100000

def sfA9 : List UInt8 := [111,107,10,48,10]
theorem sfRun9 : fcall knownT0 Tryz.prog (Gof tab) 100000 300 6 [.str sfT9] FH.empty (litK (.tuple [.str sfA9, .int .i64 0])) = true := by kernel_rfl
theorem sfG9 (H : AHeap) : Does Tryz.prog (Gof tab) 6 [.str sfT9] H fun r h => r = .tuple [.str sfA9, .int .i64 0] ∧ h = H := lit_does mixed5 plain5 knownT0_good gof_tab5 (by kernel_rfl) (by kernel_rfl) sfRun9 H
def sfA10 : List UInt8 := [111,107,10,49,52,10]
theorem sfRun10 : fcall knownT0 Tryz.prog (Gof tab) 100000 300 6 [.str sfT10] FH.empty (litK (.tuple [.str sfA10, .int .i64 0])) = true := by kernel_rfl
theorem sfG10 (H : AHeap) : Does Tryz.prog (Gof tab) 6 [.str sfT10] H fun r h => r = .tuple [.str sfA10, .int .i64 0] ∧ h = H := lit_does mixed5 plain5 knownT0_good gof_tab5 (by kernel_rfl) (by kernel_rfl) sfRun10 H
end Go.Proofs.YtajcehcdmbfhaaaGreatDoor
