/-
  Own library of this claim, part 34: texts one behind the other (SfB2).
-/
import Derived.Test.YtajcehcdmbfhaaaGreatDoorLibG
import Derived.Test.YtajcehcdmbfhaaaGreatDoorLibScriptFormsQ
set_option linter.unusedVariables false
set_option linter.unusedSimpArgs false

/-
  What is refused: lines read, closed calls, said by the evaluator.
-/


namespace Go.Proofs.YtajcehcdmbfhaaaGreatDoor
open Go Go.Abs Go.RowKit
set_option maxRecDepth 100000

theorem sfP02_run : fcall knownS7 Tryz.prog (Gof tab) 100000 300 9 [.vsl [.str [102,108,101,101,116,32,49],.str [102,108,101,101,116,32,122]] 2] FH.empty (litK (.tuple [.nilsl, .bool false])) = true := by kernel_rfl
theorem sfP12_run : fcall knownS7 Tryz.prog (Gof tab) 100000 300 9 [.vsl [.str [102,108,101,101,116,32,49],.str [112,97,115,115,32,48,32,122]] 2] FH.empty (litK (.tuple [.nilsl, .bool false])) = true := by kernel_rfl
theorem sfP22_run : fcall knownS7 Tryz.prog (Gof tab) 100000 300 9 [.vsl [.str [102,108,101,101,116,32,49],.str [100,101,108,105,118,101,114,32,122]] 2] FH.empty (litK (.tuple [.nilsl, .bool false])) = true := by kernel_rfl
theorem sfP32_run : fcall knownS7 Tryz.prog (Gof tab) 100000 300 9 [.vsl [.str [102,108,101,101,116,32,49],.str [108,111,115,101,32,122]] 2] FH.empty (litK (.tuple [.nilsl, .bool false])) = true := by kernel_rfl
theorem sfP42_run : fcall knownS7 Tryz.prog (Gof tab) 100000 300 9 [.vsl [.str [102,108,101,101,116,32,49],.str [100,111,117,98,108,101,32,122]] 2] FH.empty (litK (.tuple [.nilsl, .bool false])) = true := by kernel_rfl
theorem sfP52_run : fcall knownS7 Tryz.prog (Gof tab) 100000 300 9 [.vsl [.str [102,108,101,101,116,32,49],.str [99,114,97,115,104,32,48,32,122]] 2] FH.empty (litK (.tuple [.nilsl, .bool false])) = true := by kernel_rfl
theorem sfP62_run : fcall knownS7 Tryz.prog (Gof tab) 100000 300 9 [.vsl [.str [102,108,101,101,116,32,49],.str [117,112,32,122]] 2] FH.empty (litK (.tuple [.nilsl, .bool false])) = true := by kernel_rfl
theorem sfP72_run : fcall knownS7 Tryz.prog (Gof tab) 100000 300 9 [.vsl [.str [102,108,101,101,116,32,49],.str [115,97,118,101,32,122]] 2] FH.empty (litK (.tuple [.nilsl, .bool false])) = true := by kernel_rfl
theorem sfP82_run : fcall knownS7 Tryz.prog (Gof tab) 100000 300 9 [.vsl [.str [102,108,101,101,116,32,49],.str [111,117,116,115,32,122]] 2] FH.empty (litK (.tuple [.nilsl, .bool false])) = true := by kernel_rfl
theorem sfP92_run : fcall knownS7 Tryz.prog (Gof tab) 100000 300 9 [.vsl [.str [102,108,101,101,116,32,49],.str [110,101,122]] 2] FH.empty (litK (.tuple [.nilsl, .bool false])) = true := by kernel_rfl
theorem sfP102_run : fcall knownS7 Tryz.prog (Gof tab) 100000 300 9 [.vsl [.str [102,108,101,101,116,32,49],.str [99,111,100,122]] 2] FH.empty (litK (.tuple [.nilsl, .bool false])) = true := by kernel_rfl
theorem sfP2 : ∀ k : Nat, k < 11 → ∀ H : AHeap, Does Tryz.prog (Gof tab) 9 [rowsL (badF k 2)] H fun r h => r = .tuple [.nilsl, .bool false] ∧ h = H
  | 0, _, H => by
    have e : rowsL (badF 0 2) = .vsl [.str [102,108,101,101,116,32,49],.str [102,108,101,101,116,32,122]] 2 := by kernel_rfl
    rw [e]
    exact lit_does mixed5 plain5 knownS7_good gof_tab5 (by kernel_rfl) (by kernel_rfl) sfP02_run H
  | 1, _, H => by
    have e : rowsL (badF 1 2) = .vsl [.str [102,108,101,101,116,32,49],.str [112,97,115,115,32,48,32,122]] 2 := by kernel_rfl
    rw [e]
    exact lit_does mixed5 plain5 knownS7_good gof_tab5 (by kernel_rfl) (by kernel_rfl) sfP12_run H
  | 2, _, H => by
    have e : rowsL (badF 2 2) = .vsl [.str [102,108,101,101,116,32,49],.str [100,101,108,105,118,101,114,32,122]] 2 := by kernel_rfl
    rw [e]
    exact lit_does mixed5 plain5 knownS7_good gof_tab5 (by kernel_rfl) (by kernel_rfl) sfP22_run H
  | 3, _, H => by
    have e : rowsL (badF 3 2) = .vsl [.str [102,108,101,101,116,32,49],.str [108,111,115,101,32,122]] 2 := by kernel_rfl
    rw [e]
    exact lit_does mixed5 plain5 knownS7_good gof_tab5 (by kernel_rfl) (by kernel_rfl) sfP32_run H
  | 4, _, H => by
    have e : rowsL (badF 4 2) = .vsl [.str [102,108,101,101,116,32,49],.str [100,111,117,98,108,101,32,122]] 2 := by kernel_rfl
    rw [e]
    exact lit_does mixed5 plain5 knownS7_good gof_tab5 (by kernel_rfl) (by kernel_rfl) sfP42_run H
  | 5, _, H => by
    have e : rowsL (badF 5 2) = .vsl [.str [102,108,101,101,116,32,49],.str [99,114,97,115,104,32,48,32,122]] 2 := by kernel_rfl
    rw [e]
    exact lit_does mixed5 plain5 knownS7_good gof_tab5 (by kernel_rfl) (by kernel_rfl) sfP52_run H
  | 6, _, H => by
    have e : rowsL (badF 6 2) = .vsl [.str [102,108,101,101,116,32,49],.str [117,112,32,122]] 2 := by kernel_rfl
    rw [e]
    exact lit_does mixed5 plain5 knownS7_good gof_tab5 (by kernel_rfl) (by kernel_rfl) sfP62_run H
  | 7, _, H => by
    have e : rowsL (badF 7 2) = .vsl [.str [102,108,101,101,116,32,49],.str [115,97,118,101,32,122]] 2 := by kernel_rfl
    rw [e]
    exact lit_does mixed5 plain5 knownS7_good gof_tab5 (by kernel_rfl) (by kernel_rfl) sfP72_run H
  | 8, _, H => by
    have e : rowsL (badF 8 2) = .vsl [.str [102,108,101,101,116,32,49],.str [111,117,116,115,32,122]] 2 := by kernel_rfl
    rw [e]
    exact lit_does mixed5 plain5 knownS7_good gof_tab5 (by kernel_rfl) (by kernel_rfl) sfP82_run H
  | 9, _, H => by
    have e : rowsL (badF 9 2) = .vsl [.str [102,108,101,101,116,32,49],.str [110,101,122]] 2 := by kernel_rfl
    rw [e]
    exact lit_does mixed5 plain5 knownS7_good gof_tab5 (by kernel_rfl) (by kernel_rfl) sfP92_run H
  | 10, _, H => by
    have e : rowsL (badF 10 2) = .vsl [.str [102,108,101,101,116,32,49],.str [99,111,100,122]] 2 := by kernel_rfl
    rw [e]
    exact lit_does mixed5 plain5 knownS7_good gof_tab5 (by kernel_rfl) (by kernel_rfl) sfP102_run H
  | n + 11, hn, _ => absurd hn (by omega)
end Go.Proofs.YtajcehcdmbfhaaaGreatDoor
