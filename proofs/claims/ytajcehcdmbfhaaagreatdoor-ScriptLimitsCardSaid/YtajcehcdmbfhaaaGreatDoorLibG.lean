/-
  Own library of this claim, part 7: texts one behind the other (SkC).
-/
import Derived.Test.YtajcehcdmbfhaaaGreatDoorLibE
import Derived.Test.YtajcehcdmbfhaaaGreatDoorLibF
set_option linter.unusedVariables false
set_option linter.unusedSimpArgs false

/-
  The script's small closed calls: strings.Repeat, strconv.FormatInt by the kit's summaries; lines read, a program checked, what it means: said by the evaluator.
-/



namespace Go.Proofs.YtajcehcdmbfhaaaGreatDoor
open Go Go.Abs Go.RowKit
set_option maxRecDepth 100000

theorem skRep2 (H : AHeap) : Does Tryz.prog (Gof tab) 45 [.str [86], .int .i64 2] H fun r h => r = .str [86, 86] ∧ h = H := repeat_does [86] 2 (by decide) (by decide) H
theorem skRep1 (H : AHeap) : Does Tryz.prog (Gof tab) 45 [.str [86], .int .i64 1] H fun r h => r = .str [86] ∧ h = H := repeat_does [86] 1 (by decide) (by decide) H
noncomputable def knownS6 : Ov := ovAdd 45 (litOv [([.str [86], .int .i64 2], .str [86, 86]), ([.str [86], .int .i64 1], .str [86])]) knownS5
theorem knownS6_good : OvGoodK Tryz.prog (Gof tab) knownS6 := ovAdd_good (litOv_good fun e he H => by
  simp only [List.mem_cons, List.not_mem_nil, or_false] at he
  rcases he with rfl | rfl
  · exact skRep2 H
  · exact skRep1 H) knownS5_good
theorem sk_pow : Gof tab 0 = some (.vptr (Lib.pow10Tab.map fun z => .int .u64 z)) := by kernel_rfl
theorem skFmt (H : AHeap) : Does Tryz.prog (Gof tab) 170 [.int .i64 (-2), .int .i64 10] H fun r h => r = .str [45, 50] ∧ h = H :=
  (format_does sk_pow (-2) (by decide) (by decide) H).mono fun r h hr => ⟨hr.1.trans (by simp [Lib.itoa, Lib.decDigits]), hr.2⟩
noncomputable def knownS7 : Ov := ovAdd 170 (altOv [([.int .i64 (-2), .int .i64 10], .str [45, 50])] knownS6 Tryz.prog (Gof tab) 100000 300 170) knownS6
theorem knownS7_good : OvGoodK Tryz.prog (Gof tab) knownS7 := ovAdd_good (altOv_good mixed5 plain5 knownS6_good fun e he H => by
  simp only [List.mem_cons, List.not_mem_nil, or_false] at he
  subst he
  exact skFmt H) knownS6_good
def skL4 : AV := .tuple [.vsl [.str [102,108,101,101,116],.vsl [.int .i64 0] 1,.nilsl,.str [115,117,98,109,105,116],.vsl [.int .i64 0,.int .i64 1] 2,.vsl [.int .i64 5] 1,.str [115,117,98,109,105,116],.vsl [.int .i64 0,.int .i64 2] 2,.vsl [.int .i64 (-7)] 1,.str [111,117,116,115],.vsl [.int .i64 0] 1,.nilsl,.str [110,101,116],.nilsl,.nilsl,.str [115,117,98,109,105,116],.vsl [.int .i64 1,.int .i64 3] 2,.vsl [.int .i64 5] 1,.str [102,108,101,101,116],.vsl [.int .i64 9] 1,.nilsl] 7,.bool true]
theorem skPar4_run : fcall knownS7 Tryz.prog (Gof tab) 100000 300 9 [skV4] FH.empty (litK skL4) = true := by kernel_rfl
noncomputable def knownS8 : Ov := ovAdd 9 (altOv [([skV4], skL4)] knownS7 Tryz.prog (Gof tab) 100000 300 9) knownS7
theorem knownS8_good : OvGoodK Tryz.prog (Gof tab) knownS8 := ovAdd_good (altOv_good mixed5 plain5 knownS7_good fun e he H => by
  simp only [List.mem_cons, List.not_mem_nil, or_false] at he
  subst he
  exact lit_does mixed5 plain5 knownS7_good gof_tab5 (by kernel_rfl) (by kernel_rfl) skPar4_run H) knownS7_good
def skF0 : AV := .tuple [.vsl [.str [102],.vsl [.str [120],.int .i64 2,.str [],.bool false,.int .i64 7] 1,.vsl [.str [121],.int .i64 2,.str [],.bool false,.int .i64 24] 1,.nilsl,.vsl [.str [121],.str [43],.str [],.int .i64 0,.int .i64 43,.vsl [.str [118,97,114],.str [120],.int .i64 0,.int .i64 41,.nilsl,.str [105,110,116],.str [],.int .i64 1,.int .i64 45,.nilsl] 2,.int .i64 37] 1,.int .i64 0] 1,.agg [.int .i64 0,.int .i64 0]]
def skM0 : AV := .tuple [.vsl [.vsl [.int .i64 6] 1,.vsl [.int .i64 7] 1] 2,.agg [.int .i64 0,.int .i64 0]]
def skIn : AV := .vsl [.vsl [.int .i64 5] 1,.vsl [.int .i64 6] 1] 2
theorem skChk_run : fcall knownS7 Tryz.prog (Gof tab) 100000 300 20 [skP skR0] FH.empty (litK skF0) = true := by kernel_rfl
theorem skMean_run : fcall knownS7 Tryz.prog (Gof tab) 100000 300 80 [skP skR0, skIn] FH.empty (litK skM0) = true := by kernel_rfl
noncomputable def knownS9 : Ov := ovAdd 20 (litOv [([skP skR0], skF0)]) knownS8
theorem knownS9_good : OvGoodK Tryz.prog (Gof tab) knownS9 := ovAdd_good (litOv_good fun e he H => by
  simp only [List.mem_cons, List.not_mem_nil, or_false] at he
  subst he
  exact lit_does mixed5 plain5 knownS7_good gof_tab5 (by kernel_rfl) (by kernel_rfl) skChk_run H) knownS8_good
noncomputable def knownSa : Ov := ovAdd 80 (resOv [([skP skR0, skIn], skM0)]) knownS9
theorem knownSa_good : OvGoodK Tryz.prog (Gof tab) knownSa := ovAdd_good (resOv_good fun e he H => by
  simp only [List.mem_cons, List.not_mem_nil, or_false] at he
  subst he
  exact lit_does mixed5 plain5 knownS7_good gof_tab5 (by kernel_rfl) (by kernel_rfl) skMean_run H) knownS9_good
end Go.Proofs.YtajcehcdmbfhaaaGreatDoor
