/-
  Own library of this claim, part 33: texts one behind the other (SfB1).
-/
import Derived.Test.YtajcehcdmbfhaaaGreatDoorLibG
import Derived.Test.YtajcehcdmbfhaaaGreatDoorLibScriptFormsQ
set_option linter.unusedVariables false
set_option linter.unusedSimpArgs false

/-
  What is refused: lines read, closed calls, said by the evaluator.
-/


namespace Go.Proofs.YtajcehcdmbfhaaaGreatDoor
open Go Go.Abs Go.RowKit
set_option maxRecDepth 100000

theorem sfP01_run : fcall knownS7 Tryz.prog (Gof tab) 100000 300 9 [.vsl [.str [102,108,101,101,116,32,49],.str [120,102,108,101,101,116,32,49]] 2] FH.empty (litK (.tuple [.nilsl, .bool false])) = true := by kernel_rfl
theorem sfP11_run : fcall knownS7 Tryz.prog (Gof tab) 100000 300 9 [.vsl [.str [102,108,101,101,116,32,49],.str [120,112,97,115,115,32,48,32,53]] 2] FH.empty (litK (.tuple [.nilsl, .bool false])) = true := by kernel_rfl
theorem sfP21_run : fcall knownS7 Tryz.prog (Gof tab) 100000 300 9 [.vsl [.str [102,108,101,101,116,32,49],.str [120,100,101,108,105,118,101,114,32,48]] 2] FH.empty (litK (.tuple [.nilsl, .bool false])) = true := by kernel_rfl
theorem sfP31_run : fcall knownS7 Tryz.prog (Gof tab) 100000 300 9 [.vsl [.str [102,108,101,101,116,32,49],.str [120,108,111,115,101,32,48]] 2] FH.empty (litK (.tuple [.nilsl, .bool false])) = true := by kernel_rfl
theorem sfP41_run : fcall knownS7 Tryz.prog (Gof tab) 100000 300 9 [.vsl [.str [102,108,101,101,116,32,49],.str [120,100,111,117,98,108,101,32,48]] 2] FH.empty (litK (.tuple [.nilsl, .bool false])) = true := by kernel_rfl
theorem sfP51_run : fcall knownS7 Tryz.prog (Gof tab) 100000 300 9 [.vsl [.str [102,108,101,101,116,32,49],.str [120,99,114,97,115,104,32,48,32,51]] 2] FH.empty (litK (.tuple [.nilsl, .bool false])) = true := by kernel_rfl
theorem sfP61_run : fcall knownS7 Tryz.prog (Gof tab) 100000 300 9 [.vsl [.str [102,108,101,101,116,32,49],.str [120,117,112,32,48]] 2] FH.empty (litK (.tuple [.nilsl, .bool false])) = true := by kernel_rfl
theorem sfP71_run : fcall knownS7 Tryz.prog (Gof tab) 100000 300 9 [.vsl [.str [102,108,101,101,116,32,49],.str [120,115,97,118,101,32,48]] 2] FH.empty (litK (.tuple [.nilsl, .bool false])) = true := by kernel_rfl
theorem sfP81_run : fcall knownS7 Tryz.prog (Gof tab) 100000 300 9 [.vsl [.str [102,108,101,101,116,32,49],.str [120,111,117,116,115,32,48]] 2] FH.empty (litK (.tuple [.nilsl, .bool false])) = true := by kernel_rfl
theorem sfP91_run : fcall knownS7 Tryz.prog (Gof tab) 100000 300 9 [.vsl [.str [102,108,101,101,116,32,49],.str [120,110,101,116]] 2] FH.empty (litK (.tuple [.nilsl, .bool false])) = true := by kernel_rfl
theorem sfP101_run : fcall knownS7 Tryz.prog (Gof tab) 100000 300 9 [.vsl [.str [102,108,101,101,116,32,49],.str [120,99,111,100,101]] 2] FH.empty (litK (.tuple [.nilsl, .bool false])) = true := by kernel_rfl
theorem sfP1 : ∀ k : Nat, k < 11 → ∀ H : AHeap, Does Tryz.prog (Gof tab) 9 [rowsL (badF k 1)] H fun r h => r = .tuple [.nilsl, .bool false] ∧ h = H
  | 0, _, H => by
    have e : rowsL (badF 0 1) = .vsl [.str [102,108,101,101,116,32,49],.str [120,102,108,101,101,116,32,49]] 2 := by kernel_rfl
    rw [e]
    exact lit_does mixed5 plain5 knownS7_good gof_tab5 (by kernel_rfl) (by kernel_rfl) sfP01_run H
  | 1, _, H => by
    have e : rowsL (badF 1 1) = .vsl [.str [102,108,101,101,116,32,49],.str [120,112,97,115,115,32,48,32,53]] 2 := by kernel_rfl
    rw [e]
    exact lit_does mixed5 plain5 knownS7_good gof_tab5 (by kernel_rfl) (by kernel_rfl) sfP11_run H
  | 2, _, H => by
    have e : rowsL (badF 2 1) = .vsl [.str [102,108,101,101,116,32,49],.str [120,100,101,108,105,118,101,114,32,48]] 2 := by kernel_rfl
    rw [e]
    exact lit_does mixed5 plain5 knownS7_good gof_tab5 (by kernel_rfl) (by kernel_rfl) sfP21_run H
  | 3, _, H => by
    have e : rowsL (badF 3 1) = .vsl [.str [102,108,101,101,116,32,49],.str [120,108,111,115,101,32,48]] 2 := by kernel_rfl
    rw [e]
    exact lit_does mixed5 plain5 knownS7_good gof_tab5 (by kernel_rfl) (by kernel_rfl) sfP31_run H
  | 4, _, H => by
    have e : rowsL (badF 4 1) = .vsl [.str [102,108,101,101,116,32,49],.str [120,100,111,117,98,108,101,32,48]] 2 := by kernel_rfl
    rw [e]
    exact lit_does mixed5 plain5 knownS7_good gof_tab5 (by kernel_rfl) (by kernel_rfl) sfP41_run H
  | 5, _, H => by
    have e : rowsL (badF 5 1) = .vsl [.str [102,108,101,101,116,32,49],.str [120,99,114,97,115,104,32,48,32,51]] 2 := by kernel_rfl
    rw [e]
    exact lit_does mixed5 plain5 knownS7_good gof_tab5 (by kernel_rfl) (by kernel_rfl) sfP51_run H
  | 6, _, H => by
    have e : rowsL (badF 6 1) = .vsl [.str [102,108,101,101,116,32,49],.str [120,117,112,32,48]] 2 := by kernel_rfl
    rw [e]
    exact lit_does mixed5 plain5 knownS7_good gof_tab5 (by kernel_rfl) (by kernel_rfl) sfP61_run H
  | 7, _, H => by
    have e : rowsL (badF 7 1) = .vsl [.str [102,108,101,101,116,32,49],.str [120,115,97,118,101,32,48]] 2 := by kernel_rfl
    rw [e]
    exact lit_does mixed5 plain5 knownS7_good gof_tab5 (by kernel_rfl) (by kernel_rfl) sfP71_run H
  | 8, _, H => by
    have e : rowsL (badF 8 1) = .vsl [.str [102,108,101,101,116,32,49],.str [120,111,117,116,115,32,48]] 2 := by kernel_rfl
    rw [e]
    exact lit_does mixed5 plain5 knownS7_good gof_tab5 (by kernel_rfl) (by kernel_rfl) sfP81_run H
  | 9, _, H => by
    have e : rowsL (badF 9 1) = .vsl [.str [102,108,101,101,116,32,49],.str [120,110,101,116]] 2 := by kernel_rfl
    rw [e]
    exact lit_does mixed5 plain5 knownS7_good gof_tab5 (by kernel_rfl) (by kernel_rfl) sfP91_run H
  | 10, _, H => by
    have e : rowsL (badF 10 1) = .vsl [.str [102,108,101,101,116,32,49],.str [120,99,111,100,101]] 2 := by kernel_rfl
    rw [e]
    exact lit_does mixed5 plain5 knownS7_good gof_tab5 (by kernel_rfl) (by kernel_rfl) sfP101_run H
  | n + 11, hn, _ => absurd hn (by omega)
end Go.Proofs.YtajcehcdmbfhaaaGreatDoor
