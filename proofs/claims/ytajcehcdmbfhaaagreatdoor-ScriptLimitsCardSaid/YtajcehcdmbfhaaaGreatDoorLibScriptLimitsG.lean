/-
  Own library of this claim, part 21: texts one behind the other (TiF).
-/
import Derived.Test.YtajcehcdmbfhaaaGreatDoorLibScriptLimitsA
import Derived.Test.YtajcehcdmbfhaaaGreatDoorLibScriptLimitsB
import Derived.Test.YtajcehcdmbfhaaaGreatDoorLibScriptLimitsC
import Derived.Test.YtajcehcdmbfhaaaGreatDoorLibScriptLimitsD
import Derived.Test.YtajcehcdmbfhaaaGreatDoorLibScriptLimitsE
import Derived.Test.YtajcehcdmbfhaaaGreatDoorLibScriptLimitsF
set_option linter.unusedVariables false
set_option linter.unusedSimpArgs false

/-
  The variables tied to the program's text.
-/






namespace Go.Proofs.YtajcehcdmbfhaaaGreatDoor
open Go
theorem tie : Tryz.prog.laidByTextLater [("unicode/utf8.acceptRanges", Rows.laid_unicode_utf8_acceptRanges), ("strconv.ErrSyntax", Rows.laid_strconv_ErrSyntax), ("strconv.ErrRange", Rows.laid_strconv_ErrRange), ("internal/strconv.uint64pow10", Rows.laid_internal_strconv_uint64pow10), ("math/bits.deBruijn32tab", Rows.laid_math_bits_deBruijn32tab), ("math/bits.deBruijn64tab", Rows.laid_math_bits_deBruijn64tab)] [.data, .sentinel, .sentinel, .data, .data, .data] true :=
  Program.laidByTextLater_by_run 400 8 tie_a tie_b tie_c tie_d tie_e tie_f tie_g tie_h tie_i
theorem scriptLimits_row_tie : Rows.scriptLimitsRow.laidByTextAt .later Tryz.pinned [.pinned, .data, .sentinel, .sentinel, .data, .data, .data] true :=
  OpenClaim.laidByTextAt_pinned rfl rfl tie rfl rfl rfl rfl (fun y hy _e => by
    simp only [Rows.scriptLimitsRow, List.zip_cons_cons, List.zip_nil_right, List.mem_cons, List.mem_nil_iff, or_false] at hy
    rcases hy with rfl | rfl | rfl | rfl | rfl | rfl | rfl
    · exact ⟨pin_laid_unicode_utf8_first, by kernel_rfl⟩
    · cases _e
    · cases _e
    · cases _e
    · cases _e
    · cases _e
    · cases _e) fits1
theorem scriptForms_row_tie : Rows.scriptFormsRow.laidByTextAt .later Tryz.pinned [.pinned, .data, .sentinel, .sentinel, .data, .data, .data] true :=
  OpenClaim.laidByTextAt_pinned rfl rfl tie rfl rfl rfl rfl (fun y hy _e => by
    simp only [Rows.scriptFormsRow, List.zip_cons_cons, List.zip_nil_right, List.mem_cons, List.mem_nil_iff, or_false] at hy
    rcases hy with rfl | rfl | rfl | rfl | rfl | rfl | rfl
    · exact ⟨pin_laid_unicode_utf8_first, by kernel_rfl⟩
    · cases _e
    · cases _e
    · cases _e
    · cases _e
    · cases _e
    · cases _e) fits1
end Go.Proofs.YtajcehcdmbfhaaaGreatDoor
