/-
  Own library of this claim, part 9: texts one behind the other (MnDF3).
-/
import Derived.Test.YtnnlgafmpobdhaaGreatDoorLibMeanDelaysD

/-
  The programs of MeanDelays with 9 to 11 delays.
-/

namespace Go.Proofs.YtnnlgafmpobdhaaGreatDoor
open Go Go.Abs Go.Lex Go.RowKit
set_option maxRecDepth 100000
set_option linter.unusedVariables false

noncomputable def dknown_9 : Ov := ovAdd 18 (litOv [([.str (dT 9)], dLit 9)]) (ovAdd 19 (litOv [([dN 9], dOk)]) knownW)
theorem dparse_9 (H : AHeap) : Does Tryz.prog (Gof tab) 18 [.str (dT 9)] H fun r h => r = dLit 9 ∧ h = H :=
  lit_does (fuel := 100000) (n := 300) nmixed nplain knownW_good ngof (by kernel_rfl) (by kernel_rfl) (by kernel_rfl) H
theorem dtree_9 (H : AHeap) : Does Tryz.prog (Gof tab) 19 [dN 9] H fun r h => r = dOk ∧ h = H :=
  lit_does (fuel := 100000) (n := 300) nmixed nplain knownW_good ngof (by kernel_rfl) (by kernel_rfl) (by kernel_rfl) H
theorem dknown_good_9 : OvGoodK Tryz.prog (Gof tab) dknown_9 := ovAdd_good (litOv_good fun e he H => by
  simp only [List.mem_cons, List.not_mem_nil, or_false] at he
  subst he
  exact dparse_9 H) (ovAdd_good (litOv_good fun e he H => by
  simp only [List.mem_cons, List.not_mem_nil, or_false] at he
  subst he
  exact dtree_9 H) knownW_good)
theorem dfam_9 : DFam 9 where
  check := fun H => lit_does (fuel := 100000) (n := 300) nmixed nplain dknown_good_9 ngof (by kernel_rfl) (by kernel_rfl) (by kernel_rfl) H
  main := fun H => lit_does (fuel := 100000) (n := 300) nmixed nplain knownW_good ngof (by kernel_rfl) (by kernel_rfl) (by kernel_rfl) H
  count := fun H => lit_does (fuel := 100000) (n := 300) nmixed nplain knownW_good ngof (by kernel_rfl) (by kernel_rfl) (by kernel_rfl) H
  begun := fun H => fresh_does (fuel := 100000) (n := 300) nmixed nplain knownW_good ngof (perm := [67, 3, 5, 6, 8, 159, 65, 66, 12, 381, 368, 471, 384, 18, 389, 357, 469, 392, 24, 397, 346, 467, 400, 30, 405, 335, 465, 408, 36, 413, 324, 463, 416, 42, 421, 313, 461, 424, 48, 429, 302, 459, 432, 54, 437, 291, 457, 440, 60, 445, 280, 455, 448, 453]) (by kernel_rfl) rfl (by decide) (fun Q => by kernel_rfl) H
  ok0 := fun f g c d v w => by kernel_rfl
  ok1 := fun a b f g c d v w => by kernel_rfl
  tick0 := fun f g c d v w x => tick_does (fuel := 100000) (n := 300) nmixed nplain knownW_good (by kernel_rfl) (by kernel_rfl) (fun Q => by kernel_rfl)
  tick1 := fun a b f g c d v w x => tick_does (fuel := 100000) (n := 300) nmixed nplain knownW_good (by kernel_rfl) (by kernel_rfl) (fun Q => by kernel_rfl)

noncomputable def dknown_10 : Ov := ovAdd 18 (litOv [([.str (dT 10)], dLit 10)]) (ovAdd 19 (litOv [([dN 10], dOk)]) knownW)
theorem dparse_10 (H : AHeap) : Does Tryz.prog (Gof tab) 18 [.str (dT 10)] H fun r h => r = dLit 10 ∧ h = H :=
  lit_does (fuel := 100000) (n := 300) nmixed nplain knownW_good ngof (by kernel_rfl) (by kernel_rfl) (by kernel_rfl) H
theorem dtree_10 (H : AHeap) : Does Tryz.prog (Gof tab) 19 [dN 10] H fun r h => r = dOk ∧ h = H :=
  lit_does (fuel := 100000) (n := 300) nmixed nplain knownW_good ngof (by kernel_rfl) (by kernel_rfl) (by kernel_rfl) H
theorem dknown_good_10 : OvGoodK Tryz.prog (Gof tab) dknown_10 := ovAdd_good (litOv_good fun e he H => by
  simp only [List.mem_cons, List.not_mem_nil, or_false] at he
  subst he
  exact dparse_10 H) (ovAdd_good (litOv_good fun e he H => by
  simp only [List.mem_cons, List.not_mem_nil, or_false] at he
  subst he
  exact dtree_10 H) knownW_good)
theorem dfam_10 : DFam 10 where
  check := fun H => lit_does (fuel := 100000) (n := 300) nmixed nplain dknown_good_10 ngof (by kernel_rfl) (by kernel_rfl) (by kernel_rfl) H
  main := fun H => lit_does (fuel := 100000) (n := 300) nmixed nplain knownW_good ngof (by kernel_rfl) (by kernel_rfl) (by kernel_rfl) H
  count := fun H => lit_does (fuel := 100000) (n := 300) nmixed nplain knownW_good ngof (by kernel_rfl) (by kernel_rfl) (by kernel_rfl) H
  begun := fun H => fresh_does (fuel := 100000) (n := 300) nmixed nplain knownW_good ngof (perm := [73, 3, 5, 6, 8, 171, 71, 72, 12, 416, 403, 516, 419, 18, 424, 392, 514, 427, 24, 432, 381, 512, 435, 30, 440, 370, 510, 443, 36, 448, 359, 508, 451, 42, 456, 348, 506, 459, 48, 464, 337, 504, 467, 54, 472, 326, 502, 475, 60, 480, 315, 500, 483, 66, 488, 304, 498, 491, 496]) (by kernel_rfl) rfl (by decide) (fun Q => by kernel_rfl) H
  ok0 := fun f g c d v w => by kernel_rfl
  ok1 := fun a b f g c d v w => by kernel_rfl
  tick0 := fun f g c d v w x => tick_does (fuel := 100000) (n := 300) nmixed nplain knownW_good (by kernel_rfl) (by kernel_rfl) (fun Q => by kernel_rfl)
  tick1 := fun a b f g c d v w x => tick_does (fuel := 100000) (n := 300) nmixed nplain knownW_good (by kernel_rfl) (by kernel_rfl) (fun Q => by kernel_rfl)

noncomputable def dknown_11 : Ov := ovAdd 18 (litOv [([.str (dT 11)], dLit 11)]) (ovAdd 19 (litOv [([dN 11], dOk)]) knownW)
theorem dparse_11 (H : AHeap) : Does Tryz.prog (Gof tab) 18 [.str (dT 11)] H fun r h => r = dLit 11 ∧ h = H :=
  lit_does (fuel := 100000) (n := 300) nmixed nplain knownW_good ngof (by kernel_rfl) (by kernel_rfl) (by kernel_rfl) H
theorem dtree_11 (H : AHeap) : Does Tryz.prog (Gof tab) 19 [dN 11] H fun r h => r = dOk ∧ h = H :=
  lit_does (fuel := 100000) (n := 300) nmixed nplain knownW_good ngof (by kernel_rfl) (by kernel_rfl) (by kernel_rfl) H
theorem dknown_good_11 : OvGoodK Tryz.prog (Gof tab) dknown_11 := ovAdd_good (litOv_good fun e he H => by
  simp only [List.mem_cons, List.not_mem_nil, or_false] at he
  subst he
  exact dparse_11 H) (ovAdd_good (litOv_good fun e he H => by
  simp only [List.mem_cons, List.not_mem_nil, or_false] at he
  subst he
  exact dtree_11 H) knownW_good)
theorem dfam_11 : DFam 11 where
  check := fun H => lit_does (fuel := 100000) (n := 300) nmixed nplain dknown_good_11 ngof (by kernel_rfl) (by kernel_rfl) (by kernel_rfl) H
  main := fun H => lit_does (fuel := 100000) (n := 300) nmixed nplain knownW_good ngof (by kernel_rfl) (by kernel_rfl) (by kernel_rfl) H
  count := fun H => lit_does (fuel := 100000) (n := 300) nmixed nplain knownW_good ngof (by kernel_rfl) (by kernel_rfl) (by kernel_rfl) H
  begun := fun H => fresh_does (fuel := 100000) (n := 300) nmixed nplain knownW_good ngof (perm := [79, 3, 5, 6, 8, 183, 77, 78, 12, 451, 438, 561, 454, 18, 459, 427, 559, 462, 24, 467, 416, 557, 470, 30, 475, 405, 555, 478, 36, 483, 394, 553, 486, 42, 491, 383, 551, 494, 48, 499, 372, 549, 502, 54, 507, 361, 547, 510, 60, 515, 350, 545, 518, 66, 523, 339, 543, 526, 72, 531, 328, 541, 534, 539]) (by kernel_rfl) rfl (by decide) (fun Q => by kernel_rfl) H
  ok0 := fun f g c d v w => by kernel_rfl
  ok1 := fun a b f g c d v w => by kernel_rfl
  tick0 := fun f g c d v w x => tick_does (fuel := 100000) (n := 300) nmixed nplain knownW_good (by kernel_rfl) (by kernel_rfl) (fun Q => by kernel_rfl)
  tick1 := fun a b f g c d v w x => tick_does (fuel := 100000) (n := 300) nmixed nplain knownW_good (by kernel_rfl) (by kernel_rfl) (fun Q => by kernel_rfl)

end Go.Proofs.YtnnlgafmpobdhaaGreatDoor
