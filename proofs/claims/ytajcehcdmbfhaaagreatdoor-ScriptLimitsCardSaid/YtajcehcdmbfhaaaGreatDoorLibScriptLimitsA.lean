/-
  Own library of this claim, part 15: texts one behind the other (TiA).
-/
import Derived.Test.YtajcehcdmbfhaaaGreatDoorRows
import Derived.LaidByTextLater
import Derived.SevenTiedAt
set_option linter.unusedVariables false
set_option linter.unusedSimpArgs false

/-
  One fact of the variables' tie to the text of the program, by the kernel.
-/



namespace Go.Proofs.YtajcehcdmbfhaaaGreatDoor
open Go
theorem tie_a : Tryz.prog.worded (varsWordLater true) = true := by kernel_rfl
theorem tie_b : Tryz.prog.worded (varsWordLater !true) = false := by kernel_rfl
theorem tie_c : Tryz.prog.worded rootWordLater = true := by kernel_rfl
theorem tie_d : ([("unicode/utf8.acceptRanges", Rows.laid_unicode_utf8_acceptRanges), ("strconv.ErrSyntax", Rows.laid_strconv_ErrSyntax), ("strconv.ErrRange", Rows.laid_strconv_ErrRange), ("internal/strconv.uint64pow10", Rows.laid_internal_strconv_uint64pow10), ("math/bits.deBruijn32tab", Rows.laid_math_bits_deBruijn32tab), ("math/bits.deBruijn64tab", Rows.laid_math_bits_deBruijn64tab)] : List (String × DataW Unit)).map (fun x => Tryz.prog.kindOfLater x.1) = ([.data, .sentinel, .sentinel, .data, .data, .data] : List LaidKind).map some := by kernel_rfl
theorem tie_e : (Tryz.prog.funcNamed "gosem.cut.vars").isSome = true := by kernel_rfl
end Go.Proofs.YtajcehcdmbfhaaaGreatDoor
