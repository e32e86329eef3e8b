/-
  Own library of this claim, part 6: texts one behind the other (MnDF0).
-/
import Derived.Test.YtnnlgafmpobdhaaGreatDoorLibMeanDelaysA

/-
  The programs of MeanDelays with 0 to 2 delays.
-/

namespace Go.Proofs.YtnnlgafmpobdhaaGreatDoor
open Go Go.Abs Go.Lex Go.RowKit
set_option maxRecDepth 100000
set_option linter.unusedVariables false

noncomputable def dknown_0 : Ov := ovAdd 18 (litOv [([.str (dT 0)], dLit 0)]) (ovAdd 19 (litOv [([dN 0], dOk)]) knownW)
theorem dparse_0 (H : AHeap) : Does Tryz.prog (Gof tab) 18 [.str (dT 0)] H fun r h => r = dLit 0 ∧ h = H :=
  lit_does (fuel := 100000) (n := 300) nmixed nplain knownW_good ngof (by kernel_rfl) (by kernel_rfl) (by kernel_rfl) H
theorem dtree_0 (H : AHeap) : Does Tryz.prog (Gof tab) 19 [dN 0] H fun r h => r = dOk ∧ h = H :=
  lit_does (fuel := 100000) (n := 300) nmixed nplain knownW_good ngof (by kernel_rfl) (by kernel_rfl) (by kernel_rfl) H
theorem dknown_good_0 : OvGoodK Tryz.prog (Gof tab) dknown_0 := ovAdd_good (litOv_good fun e he H => by
  simp only [List.mem_cons, List.not_mem_nil, or_false] at he
  subst he
  exact dparse_0 H) (ovAdd_good (litOv_good fun e he H => by
  simp only [List.mem_cons, List.not_mem_nil, or_false] at he
  subst he
  exact dtree_0 H) knownW_good)
theorem dfam_0 : DFam 0 where
  check := fun H => lit_does (fuel := 100000) (n := 300) nmixed nplain dknown_good_0 ngof (by kernel_rfl) (by kernel_rfl) (by kernel_rfl) H
  main := fun H => lit_does (fuel := 100000) (n := 300) nmixed nplain knownW_good ngof (by kernel_rfl) (by kernel_rfl) (by kernel_rfl) H
  count := fun H => lit_does (fuel := 100000) (n := 300) nmixed nplain knownW_good ngof (by kernel_rfl) (by kernel_rfl) (by kernel_rfl) H
  begun := fun H => fresh_does (fuel := 100000) (n := 300) nmixed nplain knownW_good ngof (perm := [13, 3, 5, 6, 8, 49, 11, 12, 64]) (by kernel_rfl) rfl (by decide) (fun Q => by kernel_rfl) H
  ok0 := fun f g c d v w => by kernel_rfl
  ok1 := fun a b f g c d v w => by kernel_rfl
  tick0 := fun f g c d v w x => tick_does (fuel := 100000) (n := 300) nmixed nplain knownW_good (by kernel_rfl) (by kernel_rfl) (fun Q => by kernel_rfl)
  tick1 := fun a b f g c d v w x => tick_does (fuel := 100000) (n := 300) nmixed nplain knownW_good (by kernel_rfl) (by kernel_rfl) (fun Q => by kernel_rfl)

noncomputable def dknown_1 : Ov := ovAdd 18 (litOv [([.str (dT 1)], dLit 1)]) (ovAdd 19 (litOv [([dN 1], dOk)]) knownW)
theorem dparse_1 (H : AHeap) : Does Tryz.prog (Gof tab) 18 [.str (dT 1)] H fun r h => r = dLit 1 ∧ h = H :=
  lit_does (fuel := 100000) (n := 300) nmixed nplain knownW_good ngof (by kernel_rfl) (by kernel_rfl) (by kernel_rfl) H
theorem dtree_1 (H : AHeap) : Does Tryz.prog (Gof tab) 19 [dN 1] H fun r h => r = dOk ∧ h = H :=
  lit_does (fuel := 100000) (n := 300) nmixed nplain knownW_good ngof (by kernel_rfl) (by kernel_rfl) (by kernel_rfl) H
theorem dknown_good_1 : OvGoodK Tryz.prog (Gof tab) dknown_1 := ovAdd_good (litOv_good fun e he H => by
  simp only [List.mem_cons, List.not_mem_nil, or_false] at he
  subst he
  exact dparse_1 H) (ovAdd_good (litOv_good fun e he H => by
  simp only [List.mem_cons, List.not_mem_nil, or_false] at he
  subst he
  exact dtree_1 H) knownW_good)
theorem dfam_1 : DFam 1 where
  check := fun H => lit_does (fuel := 100000) (n := 300) nmixed nplain dknown_good_1 ngof (by kernel_rfl) (by kernel_rfl) (by kernel_rfl) H
  main := fun H => lit_does (fuel := 100000) (n := 300) nmixed nplain knownW_good ngof (by kernel_rfl) (by kernel_rfl) (by kernel_rfl) H
  count := fun H => lit_does (fuel := 100000) (n := 300) nmixed nplain knownW_good ngof (by kernel_rfl) (by kernel_rfl) (by kernel_rfl) H
  begun := fun H => fresh_does (fuel := 100000) (n := 300) nmixed nplain knownW_good ngof (perm := [19, 3, 5, 6, 8, 63, 17, 18, 12, 101, 88, 111, 104, 109]) (by kernel_rfl) rfl (by decide) (fun Q => by kernel_rfl) H
  ok0 := fun f g c d v w => by kernel_rfl
  ok1 := fun a b f g c d v w => by kernel_rfl
  tick0 := fun f g c d v w x => tick_does (fuel := 100000) (n := 300) nmixed nplain knownW_good (by kernel_rfl) (by kernel_rfl) (fun Q => by kernel_rfl)
  tick1 := fun a b f g c d v w x => tick_does (fuel := 100000) (n := 300) nmixed nplain knownW_good (by kernel_rfl) (by kernel_rfl) (fun Q => by kernel_rfl)

noncomputable def dknown_2 : Ov := ovAdd 18 (litOv [([.str (dT 2)], dLit 2)]) (ovAdd 19 (litOv [([dN 2], dOk)]) knownW)
theorem dparse_2 (H : AHeap) : Does Tryz.prog (Gof tab) 18 [.str (dT 2)] H fun r h => r = dLit 2 ∧ h = H :=
  lit_does (fuel := 100000) (n := 300) nmixed nplain knownW_good ngof (by kernel_rfl) (by kernel_rfl) (by kernel_rfl) H
theorem dtree_2 (H : AHeap) : Does Tryz.prog (Gof tab) 19 [dN 2] H fun r h => r = dOk ∧ h = H :=
  lit_does (fuel := 100000) (n := 300) nmixed nplain knownW_good ngof (by kernel_rfl) (by kernel_rfl) (by kernel_rfl) H
theorem dknown_good_2 : OvGoodK Tryz.prog (Gof tab) dknown_2 := ovAdd_good (litOv_good fun e he H => by
  simp only [List.mem_cons, List.not_mem_nil, or_false] at he
  subst he
  exact dparse_2 H) (ovAdd_good (litOv_good fun e he H => by
  simp only [List.mem_cons, List.not_mem_nil, or_false] at he
  subst he
  exact dtree_2 H) knownW_good)
theorem dfam_2 : DFam 2 where
  check := fun H => lit_does (fuel := 100000) (n := 300) nmixed nplain dknown_good_2 ngof (by kernel_rfl) (by kernel_rfl) (by kernel_rfl) H
  main := fun H => lit_does (fuel := 100000) (n := 300) nmixed nplain knownW_good ngof (by kernel_rfl) (by kernel_rfl) (by kernel_rfl) H
  count := fun H => lit_does (fuel := 100000) (n := 300) nmixed nplain knownW_good ngof (by kernel_rfl) (by kernel_rfl) (by kernel_rfl) H
  begun := fun H => fresh_does (fuel := 100000) (n := 300) nmixed nplain knownW_good ngof (perm := [25, 3, 5, 6, 8, 75, 23, 24, 12, 136, 123, 156, 139, 18, 144, 112, 154, 147, 152]) (by kernel_rfl) rfl (by decide) (fun Q => by kernel_rfl) H
  ok0 := fun f g c d v w => by kernel_rfl
  ok1 := fun a b f g c d v w => by kernel_rfl
  tick0 := fun f g c d v w x => tick_does (fuel := 100000) (n := 300) nmixed nplain knownW_good (by kernel_rfl) (by kernel_rfl) (fun Q => by kernel_rfl)
  tick1 := fun a b f g c d v w x => tick_does (fuel := 100000) (n := 300) nmixed nplain knownW_good (by kernel_rfl) (by kernel_rfl) (fun Q => by kernel_rfl)

end Go.Proofs.YtnnlgafmpobdhaaGreatDoor
