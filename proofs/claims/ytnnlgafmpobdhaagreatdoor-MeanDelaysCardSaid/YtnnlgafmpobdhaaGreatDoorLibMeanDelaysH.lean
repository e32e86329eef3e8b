/-
  Own library of this claim, part 12: texts one behind the other (MnDF6).
-/
import Derived.Test.YtnnlgafmpobdhaaGreatDoorLibMeanDelaysG

/-
  The programs of MeanDelays with 18 to 20 delays.
-/

namespace Go.Proofs.YtnnlgafmpobdhaaGreatDoor
open Go Go.Abs Go.Lex Go.RowKit
set_option maxRecDepth 100000
set_option linter.unusedVariables false

noncomputable def dknown_18 : Ov := ovAdd 18 (litOv [([.str (dT 18)], dLit 18)]) (ovAdd 19 (litOv [([dN 18], dOk)]) knownW)
theorem dparse_18 (H : AHeap) : Does Tryz.prog (Gof tab) 18 [.str (dT 18)] H fun r h => r = dLit 18 ∧ h = H :=
  lit_does (fuel := 100000) (n := 300) nmixed nplain knownW_good ngof (by kernel_rfl) (by kernel_rfl) (by kernel_rfl) H
theorem dtree_18 (H : AHeap) : Does Tryz.prog (Gof tab) 19 [dN 18] H fun r h => r = dOk ∧ h = H :=
  lit_does (fuel := 100000) (n := 300) nmixed nplain knownW_good ngof (by kernel_rfl) (by kernel_rfl) (by kernel_rfl) H
theorem dknown_good_18 : OvGoodK Tryz.prog (Gof tab) dknown_18 := ovAdd_good (litOv_good fun e he H => by
  simp only [List.mem_cons, List.not_mem_nil, or_false] at he
  subst he
  exact dparse_18 H) (ovAdd_good (litOv_good fun e he H => by
  simp only [List.mem_cons, List.not_mem_nil, or_false] at he
  subst he
  exact dtree_18 H) knownW_good)
theorem dfam_18 : DFam 18 where
  check := fun H => lit_does (fuel := 100000) (n := 300) nmixed nplain dknown_good_18 ngof (by kernel_rfl) (by kernel_rfl) (by kernel_rfl) H
  main := fun H => lit_does (fuel := 100000) (n := 300) nmixed nplain knownW_good ngof (by kernel_rfl) (by kernel_rfl) (by kernel_rfl) H
  count := fun H => lit_does (fuel := 100000) (n := 300) nmixed nplain knownW_good ngof (by kernel_rfl) (by kernel_rfl) (by kernel_rfl) H
  begun := fun H => fresh_does (fuel := 100000) (n := 300) nmixed nplain knownW_good ngof (perm := [121, 3, 5, 6, 8, 267, 119, 120, 12, 696, 683, 876, 699, 18, 704, 672, 874, 707, 24, 712, 661, 872, 715, 30, 720, 650, 870, 723, 36, 728, 639, 868, 731, 42, 736, 628, 866, 739, 48, 744, 617, 864, 747, 54, 752, 606, 862, 755, 60, 760, 595, 860, 763, 66, 768, 584, 858, 771, 72, 776, 573, 856, 779, 78, 784, 562, 854, 787, 84, 792, 551, 852, 795, 90, 800, 540, 850, 803, 96, 808, 529, 848, 811, 102, 816, 518, 846, 819, 108, 824, 507, 844, 827, 114, 832, 496, 842, 835, 840]) (by kernel_rfl) rfl (by decide) (fun Q => by kernel_rfl) H
  ok0 := fun f g c d v w => by kernel_rfl
  ok1 := fun a b f g c d v w => by kernel_rfl
  tick0 := fun f g c d v w x => tick_does (fuel := 100000) (n := 300) nmixed nplain knownW_good (by kernel_rfl) (by kernel_rfl) (fun Q => by kernel_rfl)
  tick1 := fun a b f g c d v w x => tick_does (fuel := 100000) (n := 300) nmixed nplain knownW_good (by kernel_rfl) (by kernel_rfl) (fun Q => by kernel_rfl)

noncomputable def dknown_19 : Ov := ovAdd 18 (litOv [([.str (dT 19)], dLit 19)]) (ovAdd 19 (litOv [([dN 19], dOk)]) knownW)
theorem dparse_19 (H : AHeap) : Does Tryz.prog (Gof tab) 18 [.str (dT 19)] H fun r h => r = dLit 19 ∧ h = H :=
  lit_does (fuel := 100000) (n := 300) nmixed nplain knownW_good ngof (by kernel_rfl) (by kernel_rfl) (by kernel_rfl) H
theorem dtree_19 (H : AHeap) : Does Tryz.prog (Gof tab) 19 [dN 19] H fun r h => r = dOk ∧ h = H :=
  lit_does (fuel := 100000) (n := 300) nmixed nplain knownW_good ngof (by kernel_rfl) (by kernel_rfl) (by kernel_rfl) H
theorem dknown_good_19 : OvGoodK Tryz.prog (Gof tab) dknown_19 := ovAdd_good (litOv_good fun e he H => by
  simp only [List.mem_cons, List.not_mem_nil, or_false] at he
  subst he
  exact dparse_19 H) (ovAdd_good (litOv_good fun e he H => by
  simp only [List.mem_cons, List.not_mem_nil, or_false] at he
  subst he
  exact dtree_19 H) knownW_good)
theorem dfam_19 : DFam 19 where
  check := fun H => lit_does (fuel := 100000) (n := 300) nmixed nplain dknown_good_19 ngof (by kernel_rfl) (by kernel_rfl) (by kernel_rfl) H
  main := fun H => lit_does (fuel := 100000) (n := 300) nmixed nplain knownW_good ngof (by kernel_rfl) (by kernel_rfl) (by kernel_rfl) H
  count := fun H => lit_does (fuel := 100000) (n := 300) nmixed nplain knownW_good ngof (by kernel_rfl) (by kernel_rfl) (by kernel_rfl) H
  begun := fun H => fresh_does (fuel := 100000) (n := 300) nmixed nplain knownW_good ngof (perm := [127, 3, 5, 6, 8, 279, 125, 126, 12, 731, 718, 921, 734, 18, 739, 707, 919, 742, 24, 747, 696, 917, 750, 30, 755, 685, 915, 758, 36, 763, 674, 913, 766, 42, 771, 663, 911, 774, 48, 779, 652, 909, 782, 54, 787, 641, 907, 790, 60, 795, 630, 905, 798, 66, 803, 619, 903, 806, 72, 811, 608, 901, 814, 78, 819, 597, 899, 822, 84, 827, 586, 897, 830, 90, 835, 575, 895, 838, 96, 843, 564, 893, 846, 102, 851, 553, 891, 854, 108, 859, 542, 889, 862, 114, 867, 531, 887, 870, 120, 875, 520, 885, 878, 883]) (by kernel_rfl) rfl (by decide) (fun Q => by kernel_rfl) H
  ok0 := fun f g c d v w => by kernel_rfl
  ok1 := fun a b f g c d v w => by kernel_rfl
  tick0 := fun f g c d v w x => tick_does (fuel := 100000) (n := 300) nmixed nplain knownW_good (by kernel_rfl) (by kernel_rfl) (fun Q => by kernel_rfl)
  tick1 := fun a b f g c d v w x => tick_does (fuel := 100000) (n := 300) nmixed nplain knownW_good (by kernel_rfl) (by kernel_rfl) (fun Q => by kernel_rfl)

noncomputable def dknown_20 : Ov := ovAdd 18 (litOv [([.str (dT 20)], dLit 20)]) (ovAdd 19 (litOv [([dN 20], dOk)]) knownW)
theorem dparse_20 (H : AHeap) : Does Tryz.prog (Gof tab) 18 [.str (dT 20)] H fun r h => r = dLit 20 ∧ h = H :=
  lit_does (fuel := 100000) (n := 300) nmixed nplain knownW_good ngof (by kernel_rfl) (by kernel_rfl) (by kernel_rfl) H
theorem dtree_20 (H : AHeap) : Does Tryz.prog (Gof tab) 19 [dN 20] H fun r h => r = dOk ∧ h = H :=
  lit_does (fuel := 100000) (n := 300) nmixed nplain knownW_good ngof (by kernel_rfl) (by kernel_rfl) (by kernel_rfl) H
theorem dknown_good_20 : OvGoodK Tryz.prog (Gof tab) dknown_20 := ovAdd_good (litOv_good fun e he H => by
  simp only [List.mem_cons, List.not_mem_nil, or_false] at he
  subst he
  exact dparse_20 H) (ovAdd_good (litOv_good fun e he H => by
  simp only [List.mem_cons, List.not_mem_nil, or_false] at he
  subst he
  exact dtree_20 H) knownW_good)
theorem dfam_20 : DFam 20 where
  check := fun H => lit_does (fuel := 100000) (n := 300) nmixed nplain dknown_good_20 ngof (by kernel_rfl) (by kernel_rfl) (by kernel_rfl) H
  main := fun H => lit_does (fuel := 100000) (n := 300) nmixed nplain knownW_good ngof (by kernel_rfl) (by kernel_rfl) (by kernel_rfl) H
  count := fun H => lit_does (fuel := 100000) (n := 300) nmixed nplain knownW_good ngof (by kernel_rfl) (by kernel_rfl) (by kernel_rfl) H
  begun := fun H => fresh_does (fuel := 100000) (n := 300) nmixed nplain knownW_good ngof (perm := [133, 3, 5, 6, 8, 291, 131, 132, 12, 766, 753, 966, 769, 18, 774, 742, 964, 777, 24, 782, 731, 962, 785, 30, 790, 720, 960, 793, 36, 798, 709, 958, 801, 42, 806, 698, 956, 809, 48, 814, 687, 954, 817, 54, 822, 676, 952, 825, 60, 830, 665, 950, 833, 66, 838, 654, 948, 841, 72, 846, 643, 946, 849, 78, 854, 632, 944, 857, 84, 862, 621, 942, 865, 90, 870, 610, 940, 873, 96, 878, 599, 938, 881, 102, 886, 588, 936, 889, 108, 894, 577, 934, 897, 114, 902, 566, 932, 905, 120, 910, 555, 930, 913, 126, 918, 544, 928, 921, 926]) (by kernel_rfl) rfl (by decide) (fun Q => by kernel_rfl) H
  ok0 := fun f g c d v w => by kernel_rfl
  ok1 := fun a b f g c d v w => by kernel_rfl
  tick0 := fun f g c d v w x => tick_does (fuel := 100000) (n := 300) nmixed nplain knownW_good (by kernel_rfl) (by kernel_rfl) (fun Q => by kernel_rfl)
  tick1 := fun a b f g c d v w x => tick_does (fuel := 100000) (n := 300) nmixed nplain knownW_good (by kernel_rfl) (by kernel_rfl) (fun Q => by kernel_rfl)

end Go.Proofs.YtnnlgafmpobdhaaGreatDoor
