/-
  Own library of this claim, part 32: texts one behind the other (SfB0).
-/
import Derived.Test.YtajcehcdmbfhaaaGreatDoorLibG
import Derived.Test.YtajcehcdmbfhaaaGreatDoorLibScriptFormsQ
set_option linter.unusedVariables false
set_option linter.unusedSimpArgs false

/-
  What is refused: lines read, closed calls, said by the evaluator.
-/


namespace Go.Proofs.YtajcehcdmbfhaaaGreatDoor
open Go Go.Abs Go.RowKit
set_option maxRecDepth 100000

theorem sfP00_run : fcall knownS7 Tryz.prog (Gof tab) 100000 300 9 [.vsl [.str [102,108,101,101,116,32,49],.str [102,108,101,101,116,32,49,32,49]] 2] FH.empty (litK (.tuple [.nilsl, .bool false])) = true := by kernel_rfl
theorem sfP10_run : fcall knownS7 Tryz.prog (Gof tab) 100000 300 9 [.vsl [.str [102,108,101,101,116,32,49],.str [112,97,115,115,32,48,32,53,32,49]] 2] FH.empty (litK (.tuple [.nilsl, .bool false])) = true := by kernel_rfl
theorem sfP20_run : fcall knownS7 Tryz.prog (Gof tab) 100000 300 9 [.vsl [.str [102,108,101,101,116,32,49],.str [100,101,108,105,118,101,114,32,48,32,49]] 2] FH.empty (litK (.tuple [.nilsl, .bool false])) = true := by kernel_rfl
theorem sfP30_run : fcall knownS7 Tryz.prog (Gof tab) 100000 300 9 [.vsl [.str [102,108,101,101,116,32,49],.str [108,111,115,101,32,48,32,49]] 2] FH.empty (litK (.tuple [.nilsl, .bool false])) = true := by kernel_rfl
theorem sfP40_run : fcall knownS7 Tryz.prog (Gof tab) 100000 300 9 [.vsl [.str [102,108,101,101,116,32,49],.str [100,111,117,98,108,101,32,48,32,49]] 2] FH.empty (litK (.tuple [.nilsl, .bool false])) = true := by kernel_rfl
theorem sfP50_run : fcall knownS7 Tryz.prog (Gof tab) 100000 300 9 [.vsl [.str [102,108,101,101,116,32,49],.str [99,114,97,115,104,32,48,32,51,32,49]] 2] FH.empty (litK (.tuple [.nilsl, .bool false])) = true := by kernel_rfl
theorem sfP60_run : fcall knownS7 Tryz.prog (Gof tab) 100000 300 9 [.vsl [.str [102,108,101,101,116,32,49],.str [117,112,32,48,32,49]] 2] FH.empty (litK (.tuple [.nilsl, .bool false])) = true := by kernel_rfl
theorem sfP70_run : fcall knownS7 Tryz.prog (Gof tab) 100000 300 9 [.vsl [.str [102,108,101,101,116,32,49],.str [115,97,118,101,32,48,32,49]] 2] FH.empty (litK (.tuple [.nilsl, .bool false])) = true := by kernel_rfl
theorem sfP80_run : fcall knownS7 Tryz.prog (Gof tab) 100000 300 9 [.vsl [.str [102,108,101,101,116,32,49],.str [111,117,116,115,32,48,32,49]] 2] FH.empty (litK (.tuple [.nilsl, .bool false])) = true := by kernel_rfl
theorem sfP90_run : fcall knownS7 Tryz.prog (Gof tab) 100000 300 9 [.vsl [.str [102,108,101,101,116,32,49],.str [110,101,116,32,49]] 2] FH.empty (litK (.tuple [.nilsl, .bool false])) = true := by kernel_rfl
theorem sfP100_run : fcall knownS7 Tryz.prog (Gof tab) 100000 300 9 [.vsl [.str [102,108,101,101,116,32,49],.str [99,111,100,101,32,49]] 2] FH.empty (litK (.tuple [.nilsl, .bool false])) = true := by kernel_rfl
theorem sfP0 : ∀ k : Nat, k < 11 → ∀ H : AHeap, Does Tryz.prog (Gof tab) 9 [rowsL (badF k 0)] H fun r h => r = .tuple [.nilsl, .bool false] ∧ h = H
  | 0, _, H => by
    have e : rowsL (badF 0 0) = .vsl [.str [102,108,101,101,116,32,49],.str [102,108,101,101,116,32,49,32,49]] 2 := by kernel_rfl
    rw [e]
    exact lit_does mixed5 plain5 knownS7_good gof_tab5 (by kernel_rfl) (by kernel_rfl) sfP00_run H
  | 1, _, H => by
    have e : rowsL (badF 1 0) = .vsl [.str [102,108,101,101,116,32,49],.str [112,97,115,115,32,48,32,53,32,49]] 2 := by kernel_rfl
    rw [e]
    exact lit_does mixed5 plain5 knownS7_good gof_tab5 (by kernel_rfl) (by kernel_rfl) sfP10_run H
  | 2, _, H => by
    have e : rowsL (badF 2 0) = .vsl [.str [102,108,101,101,116,32,49],.str [100,101,108,105,118,101,114,32,48,32,49]] 2 := by kernel_rfl
    rw [e]
    exact lit_does mixed5 plain5 knownS7_good gof_tab5 (by kernel_rfl) (by kernel_rfl) sfP20_run H
  | 3, _, H => by
    have e : rowsL (badF 3 0) = .vsl [.str [102,108,101,101,116,32,49],.str [108,111,115,101,32,48,32,49]] 2 := by kernel_rfl
    rw [e]
    exact lit_does mixed5 plain5 knownS7_good gof_tab5 (by kernel_rfl) (by kernel_rfl) sfP30_run H
  | 4, _, H => by
    have e : rowsL (badF 4 0) = .vsl [.str [102,108,101,101,116,32,49],.str [100,111,117,98,108,101,32,48,32,49]] 2 := by kernel_rfl
    rw [e]
    exact lit_does mixed5 plain5 knownS7_good gof_tab5 (by kernel_rfl) (by kernel_rfl) sfP40_run H
  | 5, _, H => by
    have e : rowsL (badF 5 0) = .vsl [.str [102,108,101,101,116,32,49],.str [99,114,97,115,104,32,48,32,51,32,49]] 2 := by kernel_rfl
    rw [e]
    exact lit_does mixed5 plain5 knownS7_good gof_tab5 (by kernel_rfl) (by kernel_rfl) sfP50_run H
  | 6, _, H => by
    have e : rowsL (badF 6 0) = .vsl [.str [102,108,101,101,116,32,49],.str [117,112,32,48,32,49]] 2 := by kernel_rfl
    rw [e]
    exact lit_does mixed5 plain5 knownS7_good gof_tab5 (by kernel_rfl) (by kernel_rfl) sfP60_run H
  | 7, _, H => by
    have e : rowsL (badF 7 0) = .vsl [.str [102,108,101,101,116,32,49],.str [115,97,118,101,32,48,32,49]] 2 := by kernel_rfl
    rw [e]
    exact lit_does mixed5 plain5 knownS7_good gof_tab5 (by kernel_rfl) (by kernel_rfl) sfP70_run H
  | 8, _, H => by
    have e : rowsL (badF 8 0) = .vsl [.str [102,108,101,101,116,32,49],.str [111,117,116,115,32,48,32,49]] 2 := by kernel_rfl
    rw [e]
    exact lit_does mixed5 plain5 knownS7_good gof_tab5 (by kernel_rfl) (by kernel_rfl) sfP80_run H
  | 9, _, H => by
    have e : rowsL (badF 9 0) = .vsl [.str [102,108,101,101,116,32,49],.str [110,101,116,32,49]] 2 := by kernel_rfl
    rw [e]
    exact lit_does mixed5 plain5 knownS7_good gof_tab5 (by kernel_rfl) (by kernel_rfl) sfP90_run H
  | 10, _, H => by
    have e : rowsL (badF 10 0) = .vsl [.str [102,108,101,101,116,32,49],.str [99,111,100,101,32,49]] 2 := by kernel_rfl
    rw [e]
    exact lit_does mixed5 plain5 knownS7_good gof_tab5 (by kernel_rfl) (by kernel_rfl) sfP100_run H
  | n + 11, hn, _ => absurd hn (by omega)
end Go.Proofs.YtajcehcdmbfhaaaGreatDoor
