/-
  Own library of this claim, part 10: texts one behind the other (MnDF4).
-/
import Derived.Test.YtnnlgafmpobdhaaGreatDoorLibMeanDelaysE

/-
  The programs of MeanDelays with 12 to 14 delays.
-/

namespace Go.Proofs.YtnnlgafmpobdhaaGreatDoor
open Go Go.Abs Go.Lex Go.RowKit
set_option maxRecDepth 100000
set_option linter.unusedVariables false

noncomputable def dknown_12 : Ov := ovAdd 18 (litOv [([.str (dT 12)], dLit 12)]) (ovAdd 19 (litOv [([dN 12], dOk)]) knownW)
theorem dparse_12 (H : AHeap) : Does Tryz.prog (Gof tab) 18 [.str (dT 12)] H fun r h => r = dLit 12 ∧ h = H :=
  lit_does (fuel := 100000) (n := 300) nmixed nplain knownW_good ngof (by kernel_rfl) (by kernel_rfl) (by kernel_rfl) H
theorem dtree_12 (H : AHeap) : Does Tryz.prog (Gof tab) 19 [dN 12] H fun r h => r = dOk ∧ h = H :=
  lit_does (fuel := 100000) (n := 300) nmixed nplain knownW_good ngof (by kernel_rfl) (by kernel_rfl) (by kernel_rfl) H
theorem dknown_good_12 : OvGoodK Tryz.prog (Gof tab) dknown_12 := ovAdd_good (litOv_good fun e he H => by
  simp only [List.mem_cons, List.not_mem_nil, or_false] at he
  subst he
  exact dparse_12 H) (ovAdd_good (litOv_good fun e he H => by
  simp only [List.mem_cons, List.not_mem_nil, or_false] at he
  subst he
  exact dtree_12 H) knownW_good)
theorem dfam_12 : DFam 12 where
  check := fun H => lit_does (fuel := 100000) (n := 300) nmixed nplain dknown_good_12 ngof (by kernel_rfl) (by kernel_rfl) (by kernel_rfl) H
  main := fun H => lit_does (fuel := 100000) (n := 300) nmixed nplain knownW_good ngof (by kernel_rfl) (by kernel_rfl) (by kernel_rfl) H
  count := fun H => lit_does (fuel := 100000) (n := 300) nmixed nplain knownW_good ngof (by kernel_rfl) (by kernel_rfl) (by kernel_rfl) H
  begun := fun H => fresh_does (fuel := 100000) (n := 300) nmixed nplain knownW_good ngof (perm := [85, 3, 5, 6, 8, 195, 83, 84, 12, 486, 473, 606, 489, 18, 494, 462, 604, 497, 24, 502, 451, 602, 505, 30, 510, 440, 600, 513, 36, 518, 429, 598, 521, 42, 526, 418, 596, 529, 48, 534, 407, 594, 537, 54, 542, 396, 592, 545, 60, 550, 385, 590, 553, 66, 558, 374, 588, 561, 72, 566, 363, 586, 569, 78, 574, 352, 584, 577, 582]) (by kernel_rfl) rfl (by decide) (fun Q => by kernel_rfl) H
  ok0 := fun f g c d v w => by kernel_rfl
  ok1 := fun a b f g c d v w => by kernel_rfl
  tick0 := fun f g c d v w x => tick_does (fuel := 100000) (n := 300) nmixed nplain knownW_good (by kernel_rfl) (by kernel_rfl) (fun Q => by kernel_rfl)
  tick1 := fun a b f g c d v w x => tick_does (fuel := 100000) (n := 300) nmixed nplain knownW_good (by kernel_rfl) (by kernel_rfl) (fun Q => by kernel_rfl)

noncomputable def dknown_13 : Ov := ovAdd 18 (litOv [([.str (dT 13)], dLit 13)]) (ovAdd 19 (litOv [([dN 13], dOk)]) knownW)
theorem dparse_13 (H : AHeap) : Does Tryz.prog (Gof tab) 18 [.str (dT 13)] H fun r h => r = dLit 13 ∧ h = H :=
  lit_does (fuel := 100000) (n := 300) nmixed nplain knownW_good ngof (by kernel_rfl) (by kernel_rfl) (by kernel_rfl) H
theorem dtree_13 (H : AHeap) : Does Tryz.prog (Gof tab) 19 [dN 13] H fun r h => r = dOk ∧ h = H :=
  lit_does (fuel := 100000) (n := 300) nmixed nplain knownW_good ngof (by kernel_rfl) (by kernel_rfl) (by kernel_rfl) H
theorem dknown_good_13 : OvGoodK Tryz.prog (Gof tab) dknown_13 := ovAdd_good (litOv_good fun e he H => by
  simp only [List.mem_cons, List.not_mem_nil, or_false] at he
  subst he
  exact dparse_13 H) (ovAdd_good (litOv_good fun e he H => by
  simp only [List.mem_cons, List.not_mem_nil, or_false] at he
  subst he
  exact dtree_13 H) knownW_good)
theorem dfam_13 : DFam 13 where
  check := fun H => lit_does (fuel := 100000) (n := 300) nmixed nplain dknown_good_13 ngof (by kernel_rfl) (by kernel_rfl) (by kernel_rfl) H
  main := fun H => lit_does (fuel := 100000) (n := 300) nmixed nplain knownW_good ngof (by kernel_rfl) (by kernel_rfl) (by kernel_rfl) H
  count := fun H => lit_does (fuel := 100000) (n := 300) nmixed nplain knownW_good ngof (by kernel_rfl) (by kernel_rfl) (by kernel_rfl) H
  begun := fun H => fresh_does (fuel := 100000) (n := 300) nmixed nplain knownW_good ngof (perm := [91, 3, 5, 6, 8, 207, 89, 90, 12, 521, 508, 651, 524, 18, 529, 497, 649, 532, 24, 537, 486, 647, 540, 30, 545, 475, 645, 548, 36, 553, 464, 643, 556, 42, 561, 453, 641, 564, 48, 569, 442, 639, 572, 54, 577, 431, 637, 580, 60, 585, 420, 635, 588, 66, 593, 409, 633, 596, 72, 601, 398, 631, 604, 78, 609, 387, 629, 612, 84, 617, 376, 627, 620, 625]) (by kernel_rfl) rfl (by decide) (fun Q => by kernel_rfl) H
  ok0 := fun f g c d v w => by kernel_rfl
  ok1 := fun a b f g c d v w => by kernel_rfl
  tick0 := fun f g c d v w x => tick_does (fuel := 100000) (n := 300) nmixed nplain knownW_good (by kernel_rfl) (by kernel_rfl) (fun Q => by kernel_rfl)
  tick1 := fun a b f g c d v w x => tick_does (fuel := 100000) (n := 300) nmixed nplain knownW_good (by kernel_rfl) (by kernel_rfl) (fun Q => by kernel_rfl)

noncomputable def dknown_14 : Ov := ovAdd 18 (litOv [([.str (dT 14)], dLit 14)]) (ovAdd 19 (litOv [([dN 14], dOk)]) knownW)
theorem dparse_14 (H : AHeap) : Does Tryz.prog (Gof tab) 18 [.str (dT 14)] H fun r h => r = dLit 14 ∧ h = H :=
  lit_does (fuel := 100000) (n := 300) nmixed nplain knownW_good ngof (by kernel_rfl) (by kernel_rfl) (by kernel_rfl) H
theorem dtree_14 (H : AHeap) : Does Tryz.prog (Gof tab) 19 [dN 14] H fun r h => r = dOk ∧ h = H :=
  lit_does (fuel := 100000) (n := 300) nmixed nplain knownW_good ngof (by kernel_rfl) (by kernel_rfl) (by kernel_rfl) H
theorem dknown_good_14 : OvGoodK Tryz.prog (Gof tab) dknown_14 := ovAdd_good (litOv_good fun e he H => by
  simp only [List.mem_cons, List.not_mem_nil, or_false] at he
  subst he
  exact dparse_14 H) (ovAdd_good (litOv_good fun e he H => by
  simp only [List.mem_cons, List.not_mem_nil, or_false] at he
  subst he
  exact dtree_14 H) knownW_good)
theorem dfam_14 : DFam 14 where
  check := fun H => lit_does (fuel := 100000) (n := 300) nmixed nplain dknown_good_14 ngof (by kernel_rfl) (by kernel_rfl) (by kernel_rfl) H
  main := fun H => lit_does (fuel := 100000) (n := 300) nmixed nplain knownW_good ngof (by kernel_rfl) (by kernel_rfl) (by kernel_rfl) H
  count := fun H => lit_does (fuel := 100000) (n := 300) nmixed nplain knownW_good ngof (by kernel_rfl) (by kernel_rfl) (by kernel_rfl) H
  begun := fun H => fresh_does (fuel := 100000) (n := 300) nmixed nplain knownW_good ngof (perm := [97, 3, 5, 6, 8, 219, 95, 96, 12, 556, 543, 696, 559, 18, 564, 532, 694, 567, 24, 572, 521, 692, 575, 30, 580, 510, 690, 583, 36, 588, 499, 688, 591, 42, 596, 488, 686, 599, 48, 604, 477, 684, 607, 54, 612, 466, 682, 615, 60, 620, 455, 680, 623, 66, 628, 444, 678, 631, 72, 636, 433, 676, 639, 78, 644, 422, 674, 647, 84, 652, 411, 672, 655, 90, 660, 400, 670, 663, 668]) (by kernel_rfl) rfl (by decide) (fun Q => by kernel_rfl) H
  ok0 := fun f g c d v w => by kernel_rfl
  ok1 := fun a b f g c d v w => by kernel_rfl
  tick0 := fun f g c d v w x => tick_does (fuel := 100000) (n := 300) nmixed nplain knownW_good (by kernel_rfl) (by kernel_rfl) (fun Q => by kernel_rfl)
  tick1 := fun a b f g c d v w x => tick_does (fuel := 100000) (n := 300) nmixed nplain knownW_good (by kernel_rfl) (by kernel_rfl) (fun Q => by kernel_rfl)

end Go.Proofs.YtnnlgafmpobdhaaGreatDoor
