/-
  This seat's own ground: the listed variables as abstract values; the library's functions that are known by their contracts.
-/
import Derived.Test.YthoaeogblnnhbaaDoorRows
import Derived.Test.YthoaeogblnnhbaaDoorKlC
import Derived.Test.YthoaeogblnnhbaaDoorKlD
import Derived.Test.YthoaeogblnnhbaaDoorLxC1
import Derived.ProofKit
namespace Go.Proofs.YthoaeogblnnhbaaDoor
open Go Go.Abs Go.RowKit

noncomputable def named : String → Option TypeId := fun s => if s = "*errors.errorString" then some 95 else none
theorem named_one (name : String) (u u' : TypeId) (h : named name = some u) (h' : Tryd.prog.typeName? 3 u' = some name) : u' = u := by
  unfold named at h
  split at h <;> try (simp at h; done)
  rename_i e; subst e
  simp only [Option.some.injEq] at h; subst h
  exact typeName_ptr_named (nm := "errors.errorString") (by kernel_rfl) (by kernel_rfl) (by decide) u' h'
def seatLaid : List (String × DataW Unit) := [("math/bits.deBruijn32tab", Rows.laid_math_bits_deBruijn32tab), ("math/bits.deBruijn64tab", Rows.laid_math_bits_deBruijn64tab), ("internal/strconv.uint64pow10", Rows.laid_internal_strconv_uint64pow10), ("unicode/utf8.acceptRanges", Rows.laid_unicode_utf8_acceptRanges), ("strconv.ErrRange", Rows.laid_strconv_ErrRange), ("strconv.ErrSyntax", Rows.laid_strconv_ErrSyntax), ("unicode/utf8.first", Rows.laid_unicode_utf8_first)]
noncomputable def tab : List (Nat × List AV) := (laidTab Tryd.prog named 8 seatLaid).getD []
theorem tab_ok : (laidTab Tryd.prog named 8 seatLaid).isSome = true := by kernel_rfl
theorem laid_start {w : World} (h : laidMet Tryd.prog seatLaid w) : GRel (Env.start w) (Gof tab) := laid_met named_one tab_ok h
theorem idx38 : IsIdx Tryd.prog 38 := ⟨⟨Tryd.f38, Tryd.func38, by kernel_rfl, by kernel_rfl, by kernel_rfl, by kernel_rfl⟩⟩
theorem copy58 : IsCopy Tryd.prog 58 := ⟨Tryd.call58, clone_runs⟩
noncomputable def known : Ov := ovAdd 58 copyOv (ovAdd 38 idxOv noOv)
theorem known_good (G : Nat → Option AV) : OvGoodK Tryd.prog G known := ovAdd_good (copyOv_good copy58) (ovAdd_good (idxOv_good idx38) (noOv_good _ _))
end Go.Proofs.YthoaeogblnnhbaaDoor
