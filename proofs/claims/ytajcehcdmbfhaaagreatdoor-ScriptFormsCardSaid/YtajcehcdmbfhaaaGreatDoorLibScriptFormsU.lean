/-
  Own library of this claim, part 35: texts one behind the other (SfB3).
-/
import Derived.Test.YtajcehcdmbfhaaaGreatDoorLibG
import Derived.Test.YtajcehcdmbfhaaaGreatDoorLibScriptFormsQ
set_option linter.unusedVariables false
set_option linter.unusedSimpArgs false

/-
  What is refused: lines read, closed calls, said by the evaluator.
-/


namespace Go.Proofs.YtajcehcdmbfhaaaGreatDoor
open Go Go.Abs Go.RowKit
set_option maxRecDepth 100000

theorem sfP03_run : fcall knownS7 Tryz.prog (Gof tab) 100000 300 9 [.vsl [.str [102,108,101,101,116,32,49],.str [102,108,101,101,116,32,49],.str [110,101,116,32,110,101,116]] 3] FH.empty (litK (.tuple [.nilsl, .bool false])) = true := by kernel_rfl
theorem sfP13_run : fcall knownS7 Tryz.prog (Gof tab) 100000 300 9 [.vsl [.str [102,108,101,101,116,32,49],.str [112,97,115,115,32,48,32,53],.str [110,101,116,32,110,101,116]] 3] FH.empty (litK (.tuple [.nilsl, .bool false])) = true := by kernel_rfl
theorem sfP23_run : fcall knownS7 Tryz.prog (Gof tab) 100000 300 9 [.vsl [.str [102,108,101,101,116,32,49],.str [100,101,108,105,118,101,114,32,48],.str [110,101,116,32,110,101,116]] 3] FH.empty (litK (.tuple [.nilsl, .bool false])) = true := by kernel_rfl
theorem sfP33_run : fcall knownS7 Tryz.prog (Gof tab) 100000 300 9 [.vsl [.str [102,108,101,101,116,32,49],.str [108,111,115,101,32,48],.str [110,101,116,32,110,101,116]] 3] FH.empty (litK (.tuple [.nilsl, .bool false])) = true := by kernel_rfl
theorem sfP43_run : fcall knownS7 Tryz.prog (Gof tab) 100000 300 9 [.vsl [.str [102,108,101,101,116,32,49],.str [100,111,117,98,108,101,32,48],.str [110,101,116,32,110,101,116]] 3] FH.empty (litK (.tuple [.nilsl, .bool false])) = true := by kernel_rfl
theorem sfP53_run : fcall knownS7 Tryz.prog (Gof tab) 100000 300 9 [.vsl [.str [102,108,101,101,116,32,49],.str [99,114,97,115,104,32,48,32,51],.str [110,101,116,32,110,101,116]] 3] FH.empty (litK (.tuple [.nilsl, .bool false])) = true := by kernel_rfl
theorem sfP63_run : fcall knownS7 Tryz.prog (Gof tab) 100000 300 9 [.vsl [.str [102,108,101,101,116,32,49],.str [117,112,32,48],.str [110,101,116,32,110,101,116]] 3] FH.empty (litK (.tuple [.nilsl, .bool false])) = true := by kernel_rfl
theorem sfP73_run : fcall knownS7 Tryz.prog (Gof tab) 100000 300 9 [.vsl [.str [102,108,101,101,116,32,49],.str [115,97,118,101,32,48],.str [110,101,116,32,110,101,116]] 3] FH.empty (litK (.tuple [.nilsl, .bool false])) = true := by kernel_rfl
theorem sfP83_run : fcall knownS7 Tryz.prog (Gof tab) 100000 300 9 [.vsl [.str [102,108,101,101,116,32,49],.str [111,117,116,115,32,48],.str [110,101,116,32,110,101,116]] 3] FH.empty (litK (.tuple [.nilsl, .bool false])) = true := by kernel_rfl
theorem sfP93_run : fcall knownS7 Tryz.prog (Gof tab) 100000 300 9 [.vsl [.str [102,108,101,101,116,32,49],.str [110,101,116],.str [110,101,116,32,110,101,116]] 3] FH.empty (litK (.tuple [.nilsl, .bool false])) = true := by kernel_rfl
theorem sfP103_run : fcall knownS7 Tryz.prog (Gof tab) 100000 300 9 [.vsl [.str [102,108,101,101,116,32,49],.str [99,111,100,101],.str [110,101,116,32,110,101,116]] 3] FH.empty (litK (.tuple [.nilsl, .bool false])) = true := by kernel_rfl
theorem sfP3 : ∀ k : Nat, k < 11 → ∀ H : AHeap, Does Tryz.prog (Gof tab) 9 [rowsL (badF k 3)] H fun r h => r = .tuple [.nilsl, .bool false] ∧ h = H
  | 0, _, H => by
    have e : rowsL (badF 0 3) = .vsl [.str [102,108,101,101,116,32,49],.str [102,108,101,101,116,32,49],.str [110,101,116,32,110,101,116]] 3 := by kernel_rfl
    rw [e]
    exact lit_does mixed5 plain5 knownS7_good gof_tab5 (by kernel_rfl) (by kernel_rfl) sfP03_run H
  | 1, _, H => by
    have e : rowsL (badF 1 3) = .vsl [.str [102,108,101,101,116,32,49],.str [112,97,115,115,32,48,32,53],.str [110,101,116,32,110,101,116]] 3 := by kernel_rfl
    rw [e]
    exact lit_does mixed5 plain5 knownS7_good gof_tab5 (by kernel_rfl) (by kernel_rfl) sfP13_run H
  | 2, _, H => by
    have e : rowsL (badF 2 3) = .vsl [.str [102,108,101,101,116,32,49],.str [100,101,108,105,118,101,114,32,48],.str [110,101,116,32,110,101,116]] 3 := by kernel_rfl
    rw [e]
    exact lit_does mixed5 plain5 knownS7_good gof_tab5 (by kernel_rfl) (by kernel_rfl) sfP23_run H
  | 3, _, H => by
    have e : rowsL (badF 3 3) = .vsl [.str [102,108,101,101,116,32,49],.str [108,111,115,101,32,48],.str [110,101,116,32,110,101,116]] 3 := by kernel_rfl
    rw [e]
    exact lit_does mixed5 plain5 knownS7_good gof_tab5 (by kernel_rfl) (by kernel_rfl) sfP33_run H
  | 4, _, H => by
    have e : rowsL (badF 4 3) = .vsl [.str [102,108,101,101,116,32,49],.str [100,111,117,98,108,101,32,48],.str [110,101,116,32,110,101,116]] 3 := by kernel_rfl
    rw [e]
    exact lit_does mixed5 plain5 knownS7_good gof_tab5 (by kernel_rfl) (by kernel_rfl) sfP43_run H
  | 5, _, H => by
    have e : rowsL (badF 5 3) = .vsl [.str [102,108,101,101,116,32,49],.str [99,114,97,115,104,32,48,32,51],.str [110,101,116,32,110,101,116]] 3 := by kernel_rfl
    rw [e]
    exact lit_does mixed5 plain5 knownS7_good gof_tab5 (by kernel_rfl) (by kernel_rfl) sfP53_run H
  | 6, _, H => by
    have e : rowsL (badF 6 3) = .vsl [.str [102,108,101,101,116,32,49],.str [117,112,32,48],.str [110,101,116,32,110,101,116]] 3 := by kernel_rfl
    rw [e]
    exact lit_does mixed5 plain5 knownS7_good gof_tab5 (by kernel_rfl) (by kernel_rfl) sfP63_run H
  | 7, _, H => by
    have e : rowsL (badF 7 3) = .vsl [.str [102,108,101,101,116,32,49],.str [115,97,118,101,32,48],.str [110,101,116,32,110,101,116]] 3 := by kernel_rfl
    rw [e]
    exact lit_does mixed5 plain5 knownS7_good gof_tab5 (by kernel_rfl) (by kernel_rfl) sfP73_run H
  | 8, _, H => by
    have e : rowsL (badF 8 3) = .vsl [.str [102,108,101,101,116,32,49],.str [111,117,116,115,32,48],.str [110,101,116,32,110,101,116]] 3 := by kernel_rfl
    rw [e]
    exact lit_does mixed5 plain5 knownS7_good gof_tab5 (by kernel_rfl) (by kernel_rfl) sfP83_run H
  | 9, _, H => by
    have e : rowsL (badF 9 3) = .vsl [.str [102,108,101,101,116,32,49],.str [110,101,116],.str [110,101,116,32,110,101,116]] 3 := by kernel_rfl
    rw [e]
    exact lit_does mixed5 plain5 knownS7_good gof_tab5 (by kernel_rfl) (by kernel_rfl) sfP93_run H
  | 10, _, H => by
    have e : rowsL (badF 10 3) = .vsl [.str [102,108,101,101,116,32,49],.str [99,111,100,101],.str [110,101,116,32,110,101,116]] 3 := by kernel_rfl
    rw [e]
    exact lit_does mixed5 plain5 knownS7_good gof_tab5 (by kernel_rfl) (by kernel_rfl) sfP103_run H
  | n + 11, hn, _ => absurd hn (by omega)
end Go.Proofs.YtajcehcdmbfhaaaGreatDoor
