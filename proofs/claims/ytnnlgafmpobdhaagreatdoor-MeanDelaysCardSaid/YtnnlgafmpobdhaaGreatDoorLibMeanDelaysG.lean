/-
  Own library of this claim, part 11: texts one behind the other (MnDF5).
-/
import Derived.Test.YtnnlgafmpobdhaaGreatDoorLibMeanDelaysF

/-
  The programs of MeanDelays with 15 to 17 delays.
-/

namespace Go.Proofs.YtnnlgafmpobdhaaGreatDoor
open Go Go.Abs Go.Lex Go.RowKit
set_option maxRecDepth 100000
set_option linter.unusedVariables false

noncomputable def dknown_15 : Ov := ovAdd 18 (litOv [([.str (dT 15)], dLit 15)]) (ovAdd 19 (litOv [([dN 15], dOk)]) knownW)
theorem dparse_15 (H : AHeap) : Does Tryz.prog (Gof tab) 18 [.str (dT 15)] H fun r h => r = dLit 15 ∧ h = H :=
  lit_does (fuel := 100000) (n := 300) nmixed nplain knownW_good ngof (by kernel_rfl) (by kernel_rfl) (by kernel_rfl) H
theorem dtree_15 (H : AHeap) : Does Tryz.prog (Gof tab) 19 [dN 15] H fun r h => r = dOk ∧ h = H :=
  lit_does (fuel := 100000) (n := 300) nmixed nplain knownW_good ngof (by kernel_rfl) (by kernel_rfl) (by kernel_rfl) H
theorem dknown_good_15 : OvGoodK Tryz.prog (Gof tab) dknown_15 := ovAdd_good (litOv_good fun e he H => by
  simp only [List.mem_cons, List.not_mem_nil, or_false] at he
  subst he
  exact dparse_15 H) (ovAdd_good (litOv_good fun e he H => by
  simp only [List.mem_cons, List.not_mem_nil, or_false] at he
  subst he
  exact dtree_15 H) knownW_good)
theorem dfam_15 : DFam 15 where
  check := fun H => lit_does (fuel := 100000) (n := 300) nmixed nplain dknown_good_15 ngof (by kernel_rfl) (by kernel_rfl) (by kernel_rfl) H
  main := fun H => lit_does (fuel := 100000) (n := 300) nmixed nplain knownW_good ngof (by kernel_rfl) (by kernel_rfl) (by kernel_rfl) H
  count := fun H => lit_does (fuel := 100000) (n := 300) nmixed nplain knownW_good ngof (by kernel_rfl) (by kernel_rfl) (by kernel_rfl) H
  begun := fun H => fresh_does (fuel := 100000) (n := 300) nmixed nplain knownW_good ngof (perm := [103, 3, 5, 6, 8, 231, 101, 102, 12, 591, 578, 741, 594, 18, 599, 567, 739, 602, 24, 607, 556, 737, 610, 30, 615, 545, 735, 618, 36, 623, 534, 733, 626, 42, 631, 523, 731, 634, 48, 639, 512, 729, 642, 54, 647, 501, 727, 650, 60, 655, 490, 725, 658, 66, 663, 479, 723, 666, 72, 671, 468, 721, 674, 78, 679, 457, 719, 682, 84, 687, 446, 717, 690, 90, 695, 435, 715, 698, 96, 703, 424, 713, 706, 711]) (by kernel_rfl) rfl (by decide) (fun Q => by kernel_rfl) H
  ok0 := fun f g c d v w => by kernel_rfl
  ok1 := fun a b f g c d v w => by kernel_rfl
  tick0 := fun f g c d v w x => tick_does (fuel := 100000) (n := 300) nmixed nplain knownW_good (by kernel_rfl) (by kernel_rfl) (fun Q => by kernel_rfl)
  tick1 := fun a b f g c d v w x => tick_does (fuel := 100000) (n := 300) nmixed nplain knownW_good (by kernel_rfl) (by kernel_rfl) (fun Q => by kernel_rfl)

noncomputable def dknown_16 : Ov := ovAdd 18 (litOv [([.str (dT 16)], dLit 16)]) (ovAdd 19 (litOv [([dN 16], dOk)]) knownW)
theorem dparse_16 (H : AHeap) : Does Tryz.prog (Gof tab) 18 [.str (dT 16)] H fun r h => r = dLit 16 ∧ h = H :=
  lit_does (fuel := 100000) (n := 300) nmixed nplain knownW_good ngof (by kernel_rfl) (by kernel_rfl) (by kernel_rfl) H
theorem dtree_16 (H : AHeap) : Does Tryz.prog (Gof tab) 19 [dN 16] H fun r h => r = dOk ∧ h = H :=
  lit_does (fuel := 100000) (n := 300) nmixed nplain knownW_good ngof (by kernel_rfl) (by kernel_rfl) (by kernel_rfl) H
theorem dknown_good_16 : OvGoodK Tryz.prog (Gof tab) dknown_16 := ovAdd_good (litOv_good fun e he H => by
  simp only [List.mem_cons, List.not_mem_nil, or_false] at he
  subst he
  exact dparse_16 H) (ovAdd_good (litOv_good fun e he H => by
  simp only [List.mem_cons, List.not_mem_nil, or_false] at he
  subst he
  exact dtree_16 H) knownW_good)
theorem dfam_16 : DFam 16 where
  check := fun H => lit_does (fuel := 100000) (n := 300) nmixed nplain dknown_good_16 ngof (by kernel_rfl) (by kernel_rfl) (by kernel_rfl) H
  main := fun H => lit_does (fuel := 100000) (n := 300) nmixed nplain knownW_good ngof (by kernel_rfl) (by kernel_rfl) (by kernel_rfl) H
  count := fun H => lit_does (fuel := 100000) (n := 300) nmixed nplain knownW_good ngof (by kernel_rfl) (by kernel_rfl) (by kernel_rfl) H
  begun := fun H => fresh_does (fuel := 100000) (n := 300) nmixed nplain knownW_good ngof (perm := [109, 3, 5, 6, 8, 243, 107, 108, 12, 626, 613, 786, 629, 18, 634, 602, 784, 637, 24, 642, 591, 782, 645, 30, 650, 580, 780, 653, 36, 658, 569, 778, 661, 42, 666, 558, 776, 669, 48, 674, 547, 774, 677, 54, 682, 536, 772, 685, 60, 690, 525, 770, 693, 66, 698, 514, 768, 701, 72, 706, 503, 766, 709, 78, 714, 492, 764, 717, 84, 722, 481, 762, 725, 90, 730, 470, 760, 733, 96, 738, 459, 758, 741, 102, 746, 448, 756, 749, 754]) (by kernel_rfl) rfl (by decide) (fun Q => by kernel_rfl) H
  ok0 := fun f g c d v w => by kernel_rfl
  ok1 := fun a b f g c d v w => by kernel_rfl
  tick0 := fun f g c d v w x => tick_does (fuel := 100000) (n := 300) nmixed nplain knownW_good (by kernel_rfl) (by kernel_rfl) (fun Q => by kernel_rfl)
  tick1 := fun a b f g c d v w x => tick_does (fuel := 100000) (n := 300) nmixed nplain knownW_good (by kernel_rfl) (by kernel_rfl) (fun Q => by kernel_rfl)

noncomputable def dknown_17 : Ov := ovAdd 18 (litOv [([.str (dT 17)], dLit 17)]) (ovAdd 19 (litOv [([dN 17], dOk)]) knownW)
theorem dparse_17 (H : AHeap) : Does Tryz.prog (Gof tab) 18 [.str (dT 17)] H fun r h => r = dLit 17 ∧ h = H :=
  lit_does (fuel := 100000) (n := 300) nmixed nplain knownW_good ngof (by kernel_rfl) (by kernel_rfl) (by kernel_rfl) H
theorem dtree_17 (H : AHeap) : Does Tryz.prog (Gof tab) 19 [dN 17] H fun r h => r = dOk ∧ h = H :=
  lit_does (fuel := 100000) (n := 300) nmixed nplain knownW_good ngof (by kernel_rfl) (by kernel_rfl) (by kernel_rfl) H
theorem dknown_good_17 : OvGoodK Tryz.prog (Gof tab) dknown_17 := ovAdd_good (litOv_good fun e he H => by
  simp only [List.mem_cons, List.not_mem_nil, or_false] at he
  subst he
  exact dparse_17 H) (ovAdd_good (litOv_good fun e he H => by
  simp only [List.mem_cons, List.not_mem_nil, or_false] at he
  subst he
  exact dtree_17 H) knownW_good)
theorem dfam_17 : DFam 17 where
  check := fun H => lit_does (fuel := 100000) (n := 300) nmixed nplain dknown_good_17 ngof (by kernel_rfl) (by kernel_rfl) (by kernel_rfl) H
  main := fun H => lit_does (fuel := 100000) (n := 300) nmixed nplain knownW_good ngof (by kernel_rfl) (by kernel_rfl) (by kernel_rfl) H
  count := fun H => lit_does (fuel := 100000) (n := 300) nmixed nplain knownW_good ngof (by kernel_rfl) (by kernel_rfl) (by kernel_rfl) H
  begun := fun H => fresh_does (fuel := 100000) (n := 300) nmixed nplain knownW_good ngof (perm := [115, 3, 5, 6, 8, 255, 113, 114, 12, 661, 648, 831, 664, 18, 669, 637, 829, 672, 24, 677, 626, 827, 680, 30, 685, 615, 825, 688, 36, 693, 604, 823, 696, 42, 701, 593, 821, 704, 48, 709, 582, 819, 712, 54, 717, 571, 817, 720, 60, 725, 560, 815, 728, 66, 733, 549, 813, 736, 72, 741, 538, 811, 744, 78, 749, 527, 809, 752, 84, 757, 516, 807, 760, 90, 765, 505, 805, 768, 96, 773, 494, 803, 776, 102, 781, 483, 801, 784, 108, 789, 472, 799, 792, 797]) (by kernel_rfl) rfl (by decide) (fun Q => by kernel_rfl) H
  ok0 := fun f g c d v w => by kernel_rfl
  ok1 := fun a b f g c d v w => by kernel_rfl
  tick0 := fun f g c d v w x => tick_does (fuel := 100000) (n := 300) nmixed nplain knownW_good (by kernel_rfl) (by kernel_rfl) (fun Q => by kernel_rfl)
  tick1 := fun a b f g c d v w x => tick_does (fuel := 100000) (n := 300) nmixed nplain knownW_good (by kernel_rfl) (by kernel_rfl) (fun Q => by kernel_rfl)

end Go.Proofs.YtnnlgafmpobdhaaGreatDoor
