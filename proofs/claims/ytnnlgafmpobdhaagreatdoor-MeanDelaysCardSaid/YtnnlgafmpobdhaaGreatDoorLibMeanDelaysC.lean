/-
  Own library of this claim, part 7: texts one behind the other (MnDF1).
-/
import Derived.Test.YtnnlgafmpobdhaaGreatDoorLibMeanDelaysB

/-
  The programs of MeanDelays with 3 to 5 delays.
-/

namespace Go.Proofs.YtnnlgafmpobdhaaGreatDoor
open Go Go.Abs Go.Lex Go.RowKit
set_option maxRecDepth 100000
set_option linter.unusedVariables false

noncomputable def dknown_3 : Ov := ovAdd 18 (litOv [([.str (dT 3)], dLit 3)]) (ovAdd 19 (litOv [([dN 3], dOk)]) knownW)
theorem dparse_3 (H : AHeap) : Does Tryz.prog (Gof tab) 18 [.str (dT 3)] H fun r h => r = dLit 3 ∧ h = H :=
  lit_does (fuel := 100000) (n := 300) nmixed nplain knownW_good ngof (by kernel_rfl) (by kernel_rfl) (by kernel_rfl) H
theorem dtree_3 (H : AHeap) : Does Tryz.prog (Gof tab) 19 [dN 3] H fun r h => r = dOk ∧ h = H :=
  lit_does (fuel := 100000) (n := 300) nmixed nplain knownW_good ngof (by kernel_rfl) (by kernel_rfl) (by kernel_rfl) H
theorem dknown_good_3 : OvGoodK Tryz.prog (Gof tab) dknown_3 := ovAdd_good (litOv_good fun e he H => by
  simp only [List.mem_cons, List.not_mem_nil, or_false] at he
  subst he
  exact dparse_3 H) (ovAdd_good (litOv_good fun e he H => by
  simp only [List.mem_cons, List.not_mem_nil, or_false] at he
  subst he
  exact dtree_3 H) knownW_good)
theorem dfam_3 : DFam 3 where
  check := fun H => lit_does (fuel := 100000) (n := 300) nmixed nplain dknown_good_3 ngof (by kernel_rfl) (by kernel_rfl) (by kernel_rfl) H
  main := fun H => lit_does (fuel := 100000) (n := 300) nmixed nplain knownW_good ngof (by kernel_rfl) (by kernel_rfl) (by kernel_rfl) H
  count := fun H => lit_does (fuel := 100000) (n := 300) nmixed nplain knownW_good ngof (by kernel_rfl) (by kernel_rfl) (by kernel_rfl) H
  begun := fun H => fresh_does (fuel := 100000) (n := 300) nmixed nplain knownW_good ngof (perm := [31, 3, 5, 6, 8, 87, 29, 30, 12, 171, 158, 201, 174, 18, 179, 147, 199, 182, 24, 187, 136, 197, 190, 195]) (by kernel_rfl) rfl (by decide) (fun Q => by kernel_rfl) H
  ok0 := fun f g c d v w => by kernel_rfl
  ok1 := fun a b f g c d v w => by kernel_rfl
  tick0 := fun f g c d v w x => tick_does (fuel := 100000) (n := 300) nmixed nplain knownW_good (by kernel_rfl) (by kernel_rfl) (fun Q => by kernel_rfl)
  tick1 := fun a b f g c d v w x => tick_does (fuel := 100000) (n := 300) nmixed nplain knownW_good (by kernel_rfl) (by kernel_rfl) (fun Q => by kernel_rfl)

noncomputable def dknown_4 : Ov := ovAdd 18 (litOv [([.str (dT 4)], dLit 4)]) (ovAdd 19 (litOv [([dN 4], dOk)]) knownW)
theorem dparse_4 (H : AHeap) : Does Tryz.prog (Gof tab) 18 [.str (dT 4)] H fun r h => r = dLit 4 ∧ h = H :=
  lit_does (fuel := 100000) (n := 300) nmixed nplain knownW_good ngof (by kernel_rfl) (by kernel_rfl) (by kernel_rfl) H
theorem dtree_4 (H : AHeap) : Does Tryz.prog (Gof tab) 19 [dN 4] H fun r h => r = dOk ∧ h = H :=
  lit_does (fuel := 100000) (n := 300) nmixed nplain knownW_good ngof (by kernel_rfl) (by kernel_rfl) (by kernel_rfl) H
theorem dknown_good_4 : OvGoodK Tryz.prog (Gof tab) dknown_4 := ovAdd_good (litOv_good fun e he H => by
  simp only [List.mem_cons, List.not_mem_nil, or_false] at he
  subst he
  exact dparse_4 H) (ovAdd_good (litOv_good fun e he H => by
  simp only [List.mem_cons, List.not_mem_nil, or_false] at he
  subst he
  exact dtree_4 H) knownW_good)
theorem dfam_4 : DFam 4 where
  check := fun H => lit_does (fuel := 100000) (n := 300) nmixed nplain dknown_good_4 ngof (by kernel_rfl) (by kernel_rfl) (by kernel_rfl) H
  main := fun H => lit_does (fuel := 100000) (n := 300) nmixed nplain knownW_good ngof (by kernel_rfl) (by kernel_rfl) (by kernel_rfl) H
  count := fun H => lit_does (fuel := 100000) (n := 300) nmixed nplain knownW_good ngof (by kernel_rfl) (by kernel_rfl) (by kernel_rfl) H
  begun := fun H => fresh_does (fuel := 100000) (n := 300) nmixed nplain knownW_good ngof (perm := [37, 3, 5, 6, 8, 99, 35, 36, 12, 206, 193, 246, 209, 18, 214, 182, 244, 217, 24, 222, 171, 242, 225, 30, 230, 160, 240, 233, 238]) (by kernel_rfl) rfl (by decide) (fun Q => by kernel_rfl) H
  ok0 := fun f g c d v w => by kernel_rfl
  ok1 := fun a b f g c d v w => by kernel_rfl
  tick0 := fun f g c d v w x => tick_does (fuel := 100000) (n := 300) nmixed nplain knownW_good (by kernel_rfl) (by kernel_rfl) (fun Q => by kernel_rfl)
  tick1 := fun a b f g c d v w x => tick_does (fuel := 100000) (n := 300) nmixed nplain knownW_good (by kernel_rfl) (by kernel_rfl) (fun Q => by kernel_rfl)

noncomputable def dknown_5 : Ov := ovAdd 18 (litOv [([.str (dT 5)], dLit 5)]) (ovAdd 19 (litOv [([dN 5], dOk)]) knownW)
theorem dparse_5 (H : AHeap) : Does Tryz.prog (Gof tab) 18 [.str (dT 5)] H fun r h => r = dLit 5 ∧ h = H :=
  lit_does (fuel := 100000) (n := 300) nmixed nplain knownW_good ngof (by kernel_rfl) (by kernel_rfl) (by kernel_rfl) H
theorem dtree_5 (H : AHeap) : Does Tryz.prog (Gof tab) 19 [dN 5] H fun r h => r = dOk ∧ h = H :=
  lit_does (fuel := 100000) (n := 300) nmixed nplain knownW_good ngof (by kernel_rfl) (by kernel_rfl) (by kernel_rfl) H
theorem dknown_good_5 : OvGoodK Tryz.prog (Gof tab) dknown_5 := ovAdd_good (litOv_good fun e he H => by
  simp only [List.mem_cons, List.not_mem_nil, or_false] at he
  subst he
  exact dparse_5 H) (ovAdd_good (litOv_good fun e he H => by
  simp only [List.mem_cons, List.not_mem_nil, or_false] at he
  subst he
  exact dtree_5 H) knownW_good)
theorem dfam_5 : DFam 5 where
  check := fun H => lit_does (fuel := 100000) (n := 300) nmixed nplain dknown_good_5 ngof (by kernel_rfl) (by kernel_rfl) (by kernel_rfl) H
  main := fun H => lit_does (fuel := 100000) (n := 300) nmixed nplain knownW_good ngof (by kernel_rfl) (by kernel_rfl) (by kernel_rfl) H
  count := fun H => lit_does (fuel := 100000) (n := 300) nmixed nplain knownW_good ngof (by kernel_rfl) (by kernel_rfl) (by kernel_rfl) H
  begun := fun H => fresh_does (fuel := 100000) (n := 300) nmixed nplain knownW_good ngof (perm := [43, 3, 5, 6, 8, 111, 41, 42, 12, 241, 228, 291, 244, 18, 249, 217, 289, 252, 24, 257, 206, 287, 260, 30, 265, 195, 285, 268, 36, 273, 184, 283, 276, 281]) (by kernel_rfl) rfl (by decide) (fun Q => by kernel_rfl) H
  ok0 := fun f g c d v w => by kernel_rfl
  ok1 := fun a b f g c d v w => by kernel_rfl
  tick0 := fun f g c d v w x => tick_does (fuel := 100000) (n := 300) nmixed nplain knownW_good (by kernel_rfl) (by kernel_rfl) (fun Q => by kernel_rfl)
  tick1 := fun a b f g c d v w x => tick_does (fuel := 100000) (n := 300) nmixed nplain knownW_good (by kernel_rfl) (by kernel_rfl) (fun Q => by kernel_rfl)

end Go.Proofs.YtnnlgafmpobdhaaGreatDoor
