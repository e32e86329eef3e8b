/-
  Own library of this claim, part 39: texts one behind the other (SfD1).
-/
import Derived.Test.YtajcehcdmbfhaaaGreatDoorLibScriptFormsW
set_option linter.unusedVariables false
set_option linter.unusedSimpArgs false

/-
  Scripts of ScriptForms, played: closed calls, said by the evaluator.
-/

namespace Go.Proofs.YtajcehcdmbfhaaaGreatDoor
open Go Go.Abs Go.RowKit
set_option maxRecDepth 100000

def sfA3 : List UInt8 := [111,107,10,101,114,114,111,114,32,53,10]
theorem sfRun3 : fcall knownT0 Tryz.prog (Gof tab) 100000 300 6 [.str sfT3] FH.empty (litK (.tuple [.str sfA3, .int .i64 0])) = true := by kernel_rfl
theorem sfG3 (H : AHeap) : Does Tryz.prog (Gof tab) 6 [.str sfT3] H fun r h => r = .tuple [.str sfA3, .int .i64 0] ∧ h = H := lit_does mixed5 plain5 knownT0_good gof_tab5 (by kernel_rfl) (by kernel_rfl) sfRun3 H
def sfA4 : List UInt8 := [111,107,10,101,114,114,111,114,32,53,10]
theorem sfRun4 : fcall knownT0 Tryz.prog (Gof tab) 100000 300 6 [.str sfT4] FH.empty (litK (.tuple [.str sfA4, .int .i64 0])) = true := by kernel_rfl
theorem sfG4 (H : AHeap) : Does Tryz.prog (Gof tab) 6 [.str sfT4] H fun r h => r = .tuple [.str sfA4, .int .i64 0] ∧ h = H := lit_does mixed5 plain5 knownT0_good gof_tab5 (by kernel_rfl) (by kernel_rfl) sfRun4 H
def sfA5 : List UInt8 := [111,107,10,111,107,10]
theorem sfRun5 : fcall knownT0 Tryz.prog (Gof tab) 100000 300 6 [.str sfT5] FH.empty (litK (.tuple [.str sfA5, .int .i64 0])) = true := by kernel_rfl
theorem sfG5 (H : AHeap) : Does Tryz.prog (Gof tab) 6 [.str sfT5] H fun r h => r = .tuple [.str sfA5, .int .i64 0] ∧ h = H := lit_does mixed5 plain5 knownT0_good gof_tab5 (by kernel_rfl) (by kernel_rfl) sfRun5 H
end Go.Proofs.YtajcehcdmbfhaaaGreatDoor
