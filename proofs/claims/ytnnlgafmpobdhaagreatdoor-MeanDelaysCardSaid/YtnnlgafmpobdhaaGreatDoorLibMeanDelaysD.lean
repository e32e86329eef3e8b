/-
  Own library of this claim, part 8: texts one behind the other (MnDF2).
-/
import Derived.Test.YtnnlgafmpobdhaaGreatDoorLibMeanDelaysC

/-
  The programs of MeanDelays with 6 to 8 delays.
-/

namespace Go.Proofs.YtnnlgafmpobdhaaGreatDoor
open Go Go.Abs Go.Lex Go.RowKit
set_option maxRecDepth 100000
set_option linter.unusedVariables false

noncomputable def dknown_6 : Ov := ovAdd 18 (litOv [([.str (dT 6)], dLit 6)]) (ovAdd 19 (litOv [([dN 6], dOk)]) knownW)
theorem dparse_6 (H : AHeap) : Does Tryz.prog (Gof tab) 18 [.str (dT 6)] H fun r h => r = dLit 6 ∧ h = H :=
  lit_does (fuel := 100000) (n := 300) nmixed nplain knownW_good ngof (by kernel_rfl) (by kernel_rfl) (by kernel_rfl) H
theorem dtree_6 (H : AHeap) : Does Tryz.prog (Gof tab) 19 [dN 6] H fun r h => r = dOk ∧ h = H :=
  lit_does (fuel := 100000) (n := 300) nmixed nplain knownW_good ngof (by kernel_rfl) (by kernel_rfl) (by kernel_rfl) H
theorem dknown_good_6 : OvGoodK Tryz.prog (Gof tab) dknown_6 := ovAdd_good (litOv_good fun e he H => by
  simp only [List.mem_cons, List.not_mem_nil, or_false] at he
  subst he
  exact dparse_6 H) (ovAdd_good (litOv_good fun e he H => by
  simp only [List.mem_cons, List.not_mem_nil, or_false] at he
  subst he
  exact dtree_6 H) knownW_good)
theorem dfam_6 : DFam 6 where
  check := fun H => lit_does (fuel := 100000) (n := 300) nmixed nplain dknown_good_6 ngof (by kernel_rfl) (by kernel_rfl) (by kernel_rfl) H
  main := fun H => lit_does (fuel := 100000) (n := 300) nmixed nplain knownW_good ngof (by kernel_rfl) (by kernel_rfl) (by kernel_rfl) H
  count := fun H => lit_does (fuel := 100000) (n := 300) nmixed nplain knownW_good ngof (by kernel_rfl) (by kernel_rfl) (by kernel_rfl) H
  begun := fun H => fresh_does (fuel := 100000) (n := 300) nmixed nplain knownW_good ngof (perm := [49, 3, 5, 6, 8, 123, 47, 48, 12, 276, 263, 336, 279, 18, 284, 252, 334, 287, 24, 292, 241, 332, 295, 30, 300, 230, 330, 303, 36, 308, 219, 328, 311, 42, 316, 208, 326, 319, 324]) (by kernel_rfl) rfl (by decide) (fun Q => by kernel_rfl) H
  ok0 := fun f g c d v w => by kernel_rfl
  ok1 := fun a b f g c d v w => by kernel_rfl
  tick0 := fun f g c d v w x => tick_does (fuel := 100000) (n := 300) nmixed nplain knownW_good (by kernel_rfl) (by kernel_rfl) (fun Q => by kernel_rfl)
  tick1 := fun a b f g c d v w x => tick_does (fuel := 100000) (n := 300) nmixed nplain knownW_good (by kernel_rfl) (by kernel_rfl) (fun Q => by kernel_rfl)

noncomputable def dknown_7 : Ov := ovAdd 18 (litOv [([.str (dT 7)], dLit 7)]) (ovAdd 19 (litOv [([dN 7], dOk)]) knownW)
theorem dparse_7 (H : AHeap) : Does Tryz.prog (Gof tab) 18 [.str (dT 7)] H fun r h => r = dLit 7 ∧ h = H :=
  lit_does (fuel := 100000) (n := 300) nmixed nplain knownW_good ngof (by kernel_rfl) (by kernel_rfl) (by kernel_rfl) H
theorem dtree_7 (H : AHeap) : Does Tryz.prog (Gof tab) 19 [dN 7] H fun r h => r = dOk ∧ h = H :=
  lit_does (fuel := 100000) (n := 300) nmixed nplain knownW_good ngof (by kernel_rfl) (by kernel_rfl) (by kernel_rfl) H
theorem dknown_good_7 : OvGoodK Tryz.prog (Gof tab) dknown_7 := ovAdd_good (litOv_good fun e he H => by
  simp only [List.mem_cons, List.not_mem_nil, or_false] at he
  subst he
  exact dparse_7 H) (ovAdd_good (litOv_good fun e he H => by
  simp only [List.mem_cons, List.not_mem_nil, or_false] at he
  subst he
  exact dtree_7 H) knownW_good)
theorem dfam_7 : DFam 7 where
  check := fun H => lit_does (fuel := 100000) (n := 300) nmixed nplain dknown_good_7 ngof (by kernel_rfl) (by kernel_rfl) (by kernel_rfl) H
  main := fun H => lit_does (fuel := 100000) (n := 300) nmixed nplain knownW_good ngof (by kernel_rfl) (by kernel_rfl) (by kernel_rfl) H
  count := fun H => lit_does (fuel := 100000) (n := 300) nmixed nplain knownW_good ngof (by kernel_rfl) (by kernel_rfl) (by kernel_rfl) H
  begun := fun H => fresh_does (fuel := 100000) (n := 300) nmixed nplain knownW_good ngof (perm := [55, 3, 5, 6, 8, 135, 53, 54, 12, 311, 298, 381, 314, 18, 319, 287, 379, 322, 24, 327, 276, 377, 330, 30, 335, 265, 375, 338, 36, 343, 254, 373, 346, 42, 351, 243, 371, 354, 48, 359, 232, 369, 362, 367]) (by kernel_rfl) rfl (by decide) (fun Q => by kernel_rfl) H
  ok0 := fun f g c d v w => by kernel_rfl
  ok1 := fun a b f g c d v w => by kernel_rfl
  tick0 := fun f g c d v w x => tick_does (fuel := 100000) (n := 300) nmixed nplain knownW_good (by kernel_rfl) (by kernel_rfl) (fun Q => by kernel_rfl)
  tick1 := fun a b f g c d v w x => tick_does (fuel := 100000) (n := 300) nmixed nplain knownW_good (by kernel_rfl) (by kernel_rfl) (fun Q => by kernel_rfl)

noncomputable def dknown_8 : Ov := ovAdd 18 (litOv [([.str (dT 8)], dLit 8)]) (ovAdd 19 (litOv [([dN 8], dOk)]) knownW)
theorem dparse_8 (H : AHeap) : Does Tryz.prog (Gof tab) 18 [.str (dT 8)] H fun r h => r = dLit 8 ∧ h = H :=
  lit_does (fuel := 100000) (n := 300) nmixed nplain knownW_good ngof (by kernel_rfl) (by kernel_rfl) (by kernel_rfl) H
theorem dtree_8 (H : AHeap) : Does Tryz.prog (Gof tab) 19 [dN 8] H fun r h => r = dOk ∧ h = H :=
  lit_does (fuel := 100000) (n := 300) nmixed nplain knownW_good ngof (by kernel_rfl) (by kernel_rfl) (by kernel_rfl) H
theorem dknown_good_8 : OvGoodK Tryz.prog (Gof tab) dknown_8 := ovAdd_good (litOv_good fun e he H => by
  simp only [List.mem_cons, List.not_mem_nil, or_false] at he
  subst he
  exact dparse_8 H) (ovAdd_good (litOv_good fun e he H => by
  simp only [List.mem_cons, List.not_mem_nil, or_false] at he
  subst he
  exact dtree_8 H) knownW_good)
theorem dfam_8 : DFam 8 where
  check := fun H => lit_does (fuel := 100000) (n := 300) nmixed nplain dknown_good_8 ngof (by kernel_rfl) (by kernel_rfl) (by kernel_rfl) H
  main := fun H => lit_does (fuel := 100000) (n := 300) nmixed nplain knownW_good ngof (by kernel_rfl) (by kernel_rfl) (by kernel_rfl) H
  count := fun H => lit_does (fuel := 100000) (n := 300) nmixed nplain knownW_good ngof (by kernel_rfl) (by kernel_rfl) (by kernel_rfl) H
  begun := fun H => fresh_does (fuel := 100000) (n := 300) nmixed nplain knownW_good ngof (perm := [61, 3, 5, 6, 8, 147, 59, 60, 12, 346, 333, 426, 349, 18, 354, 322, 424, 357, 24, 362, 311, 422, 365, 30, 370, 300, 420, 373, 36, 378, 289, 418, 381, 42, 386, 278, 416, 389, 48, 394, 267, 414, 397, 54, 402, 256, 412, 405, 410]) (by kernel_rfl) rfl (by decide) (fun Q => by kernel_rfl) H
  ok0 := fun f g c d v w => by kernel_rfl
  ok1 := fun a b f g c d v w => by kernel_rfl
  tick0 := fun f g c d v w x => tick_does (fuel := 100000) (n := 300) nmixed nplain knownW_good (by kernel_rfl) (by kernel_rfl) (fun Q => by kernel_rfl)
  tick1 := fun a b f g c d v w x => tick_does (fuel := 100000) (n := 300) nmixed nplain knownW_good (by kernel_rfl) (by kernel_rfl) (fun Q => by kernel_rfl)

end Go.Proofs.YtnnlgafmpobdhaaGreatDoor
