/-
  Own library of this claim, part 9: texts one behind the other (MnOpL).
-/
import Derived.Test.YtnnlgafmpobdhaaGreatDoorLibMeanOpsD

/-
  MeanOps: each operator of any two numbers is as the document reckons.
-/




namespace Go.Proofs.YtnnlgafmpobdhaaGreatDoor
open Go Go.Abs Go.Lex
set_option linter.unusedSimpArgs false
set_option linter.unusedVariables false

set_option maxHeartbeats 4000000 in
set_option maxRecDepth 100000 in
theorem ops_run0 (a b : Int) (H : AHeap) : Does Tryz.prog (Gof tab) 3 [.int .i64 0, .int .i64 a, .int .i64 b] H fun r _ => r = .bool true := by
  refine Does.wf Tryz.call3 fun hw _ => ?_
  refine does_f Tryz.call3 Tryz.func3 rfl (by simp [Tryz.f3]) ?_
  simp
  refine does_use (awake12 _) ?_
  rintro _ HX ⟨rfl, hHX⟩
  rw [hHX]
  clear hHX HX
  simp
  refine does_use (text_live (op0does a b) (H.push (.cells opsC)) fun j x hj => ops_low hw hj) ?_
  rintro _ HX ⟨rfl, hHX⟩
  rw [hHX]
  clear hHX HX
  simp [op0ok]
  have n3 : H.next ≠ H.next + 1 + 1 + 1 := by omega
  have nk : H.next + 1 + 1 + 1 + 1 ≠ H.next := by omega
  refine aw_drawn [(1, 0), (11, 0), (11, 20), (15, 0)] mixedOrders (by kernel_rfl) ?_
  intro es hes
  simp [n3, opsC]
  refine ⟨_, _, rf_op0 a b _ _ (by simp), Nat.le_refl _, ?_⟩
  simp [n3, opsC]
  refine ⟨_, _, same_live _ _ _ _ (by simp), Nat.le_refl _, ?_⟩
  simp [rds, heapF, n3, opsC]
  subst hes
  exact ⟨by kernel_rfl, by kernel_rfl⟩

set_option maxHeartbeats 4000000 in
set_option maxRecDepth 100000 in
theorem ops_run1 (a b : Int) (H : AHeap) : Does Tryz.prog (Gof tab) 3 [.int .i64 1, .int .i64 a, .int .i64 b] H fun r _ => r = .bool true := by
  refine Does.wf Tryz.call3 fun hw _ => ?_
  refine does_f Tryz.call3 Tryz.func3 rfl (by simp [Tryz.f3]) ?_
  simp
  refine does_use (awake12 _) ?_
  rintro _ HX ⟨rfl, hHX⟩
  rw [hHX]
  clear hHX HX
  simp
  refine does_use (text_live (op1does a b) (H.push (.cells opsC)) fun j x hj => ops_low hw hj) ?_
  rintro _ HX ⟨rfl, hHX⟩
  rw [hHX]
  clear hHX HX
  simp [op1ok]
  have n3 : H.next ≠ H.next + 1 + 1 + 1 := by omega
  have nk : H.next + 1 + 1 + 1 + 1 ≠ H.next := by omega
  refine aw_drawn [(1, 0), (11, 0), (11, 20), (15, 0)] mixedOrders (by kernel_rfl) ?_
  intro es hes
  simp [n3, opsC]
  refine ⟨_, _, rf_op1 a b _ _ (by simp), Nat.le_refl _, ?_⟩
  simp [n3, opsC]
  refine ⟨_, _, same_live _ _ _ _ (by simp), Nat.le_refl _, ?_⟩
  simp [rds, heapF, n3, opsC]
  subst hes
  exact ⟨by kernel_rfl, by kernel_rfl⟩

set_option maxHeartbeats 4000000 in
set_option maxRecDepth 100000 in
theorem ops_run2 (a b : Int) (H : AHeap) : Does Tryz.prog (Gof tab) 3 [.int .i64 2, .int .i64 a, .int .i64 b] H fun r _ => r = .bool true := by
  refine Does.wf Tryz.call3 fun hw _ => ?_
  refine does_f Tryz.call3 Tryz.func3 rfl (by simp [Tryz.f3]) ?_
  simp
  refine does_use (awake12 _) ?_
  rintro _ HX ⟨rfl, hHX⟩
  rw [hHX]
  clear hHX HX
  simp
  refine does_use (text_live (op2does a b) (H.push (.cells opsC)) fun j x hj => ops_low hw hj) ?_
  rintro _ HX ⟨rfl, hHX⟩
  rw [hHX]
  clear hHX HX
  simp [op2ok]
  have n3 : H.next ≠ H.next + 1 + 1 + 1 := by omega
  have nk : H.next + 1 + 1 + 1 + 1 ≠ H.next := by omega
  refine aw_drawn [(1, 0), (11, 0), (11, 20), (15, 0)] mixedOrders (by kernel_rfl) ?_
  intro es hes
  simp [n3, opsC]
  refine ⟨_, _, rf_op2 a b _ _ (by simp), Nat.le_refl _, ?_⟩
  simp [n3, opsC]
  refine ⟨_, _, same_live _ _ _ _ (by simp), Nat.le_refl _, ?_⟩
  simp [rds, heapF, n3, opsC]
  subst hes
  exact ⟨by kernel_rfl, by kernel_rfl⟩

set_option maxHeartbeats 4000000 in
set_option maxRecDepth 100000 in
theorem ops_run3 (a b : Int) (H : AHeap) : Does Tryz.prog (Gof tab) 3 [.int .i64 3, .int .i64 a, .int .i64 b] H fun r _ => r = .bool true := by
  refine Does.wf Tryz.call3 fun hw _ => ?_
  refine does_f Tryz.call3 Tryz.func3 rfl (by simp [Tryz.f3]) ?_
  simp
  refine does_use (awake12 _) ?_
  rintro _ HX ⟨rfl, hHX⟩
  rw [hHX]
  clear hHX HX
  simp
  refine does_use (text_live (op3does a b) (H.push (.cells opsC)) fun j x hj => ops_low hw hj) ?_
  rintro _ HX ⟨rfl, hHX⟩
  rw [hHX]
  clear hHX HX
  simp [op3ok]
  have n3 : H.next ≠ H.next + 1 + 1 + 1 := by omega
  have nk : H.next + 1 + 1 + 1 + 1 ≠ H.next := by omega
  refine aw_drawn [(1, 0), (11, 0), (11, 20), (15, 0)] mixedOrders (by kernel_rfl) ?_
  intro es hes
  simp [n3, opsC]
  refine ⟨_, _, rf_op3 a b _ _ (by simp), Nat.le_refl _, ?_⟩
  simp [n3, opsC]
  refine ⟨_, _, same_live _ _ _ _ (by simp), Nat.le_refl _, ?_⟩
  simp [rds, heapF, n3, opsC]
  subst hes
  exact ⟨by kernel_rfl, by kernel_rfl⟩

set_option maxHeartbeats 4000000 in
set_option maxRecDepth 100000 in
theorem ops_run4 (a b : Int) (H : AHeap) : Does Tryz.prog (Gof tab) 3 [.int .i64 4, .int .i64 a, .int .i64 b] H fun r _ => r = .bool true := by
  refine Does.wf Tryz.call3 fun hw _ => ?_
  refine does_f Tryz.call3 Tryz.func3 rfl (by simp [Tryz.f3]) ?_
  simp
  refine does_use (awake12 _) ?_
  rintro _ HX ⟨rfl, hHX⟩
  rw [hHX]
  clear hHX HX
  simp
  refine does_use (text_live (op4does a b) (H.push (.cells opsC)) fun j x hj => ops_low hw hj) ?_
  rintro _ HX ⟨rfl, hHX⟩
  rw [hHX]
  clear hHX HX
  simp [op4ok]
  have n3 : H.next ≠ H.next + 1 + 1 + 1 := by omega
  have nk : H.next + 1 + 1 + 1 + 1 ≠ H.next := by omega
  refine aw_drawn [(1, 0), (11, 0), (11, 20), (15, 0)] mixedOrders (by kernel_rfl) ?_
  intro es hes
  simp [n3, opsC]
  refine ⟨_, _, rf_op4 a b _ _ (by simp), Nat.le_refl _, ?_⟩
  simp [n3, opsC]
  refine ⟨_, _, same_live _ _ _ _ (by simp), Nat.le_refl _, ?_⟩
  simp [rds, heapF, n3, opsC]
  subst hes
  exact ⟨by kernel_rfl, by kernel_rfl⟩

set_option maxHeartbeats 4000000 in
set_option maxRecDepth 100000 in
theorem ops_run5 (a b : Int) (H : AHeap) : Does Tryz.prog (Gof tab) 3 [.int .i64 5, .int .i64 a, .int .i64 b] H fun r _ => r = .bool true := by
  refine Does.wf Tryz.call3 fun hw _ => ?_
  refine does_f Tryz.call3 Tryz.func3 rfl (by simp [Tryz.f3]) ?_
  simp
  refine does_use (awake12 _) ?_
  rintro _ HX ⟨rfl, hHX⟩
  rw [hHX]
  clear hHX HX
  simp
  refine does_use (text_live (op5does a b) (H.push (.cells opsC)) fun j x hj => ops_low hw hj) ?_
  rintro _ HX ⟨rfl, hHX⟩
  rw [hHX]
  clear hHX HX
  simp [op5ok]
  have n3 : H.next ≠ H.next + 1 + 1 + 1 := by omega
  have nk : H.next + 1 + 1 + 1 + 1 ≠ H.next := by omega
  refine aw_drawn [(1, 0), (11, 0), (11, 20), (15, 0)] mixedOrders (by kernel_rfl) ?_
  intro es hes
  simp [n3, opsC]
  refine ⟨_, _, rf_op5 a b _ _ (by simp), Nat.le_refl _, ?_⟩
  simp [n3, opsC]
  refine ⟨_, _, same_live _ _ _ _ (by simp), Nat.le_refl _, ?_⟩
  simp [rds, heapF, n3, opsC]
  subst hes
  exact ⟨by kernel_rfl, by kernel_rfl⟩

set_option maxHeartbeats 4000000 in
set_option maxRecDepth 100000 in
theorem ops_run6 (a b : Int) (H : AHeap) : Does Tryz.prog (Gof tab) 3 [.int .i64 6, .int .i64 a, .int .i64 b] H fun r _ => r = .bool true := by
  refine Does.wf Tryz.call3 fun hw _ => ?_
  refine does_f Tryz.call3 Tryz.func3 rfl (by simp [Tryz.f3]) ?_
  simp
  refine does_use (awake12 _) ?_
  rintro _ HX ⟨rfl, hHX⟩
  rw [hHX]
  clear hHX HX
  simp
  refine does_use (text_live (op6does a b) (H.push (.cells opsC)) fun j x hj => ops_low hw hj) ?_
  rintro _ HX ⟨rfl, hHX⟩
  rw [hHX]
  clear hHX HX
  simp [op6ok]
  have n3 : H.next ≠ H.next + 1 + 1 + 1 := by omega
  have nk : H.next + 1 + 1 + 1 + 1 ≠ H.next := by omega
  refine aw_drawn [(1, 0), (11, 0), (11, 20), (15, 0)] mixedOrders (by kernel_rfl) ?_
  intro es hes
  simp [n3, opsC]
  refine ⟨_, _, rf_op6 a b _ _ (by simp), Nat.le_refl _, ?_⟩
  simp [n3, opsC]
  refine ⟨_, _, same_live _ _ _ _ (by simp), Nat.le_refl _, ?_⟩
  simp [rds, heapF, n3, opsC]
  subst hes
  exact ⟨by kernel_rfl, by kernel_rfl⟩

set_option maxHeartbeats 4000000 in
set_option maxRecDepth 100000 in
theorem ops_run7 (a b : Int) (H : AHeap) : Does Tryz.prog (Gof tab) 3 [.int .i64 7, .int .i64 a, .int .i64 b] H fun r _ => r = .bool true := by
  refine Does.wf Tryz.call3 fun hw _ => ?_
  refine does_f Tryz.call3 Tryz.func3 rfl (by simp [Tryz.f3]) ?_
  simp
  refine does_use (awake12 _) ?_
  rintro _ HX ⟨rfl, hHX⟩
  rw [hHX]
  clear hHX HX
  simp
  refine does_use (text_live (op7does a b) (H.push (.cells opsC)) fun j x hj => ops_low hw hj) ?_
  rintro _ HX ⟨rfl, hHX⟩
  rw [hHX]
  clear hHX HX
  simp [op7ok]
  have n3 : H.next ≠ H.next + 1 + 1 + 1 := by omega
  have nk : H.next + 1 + 1 + 1 + 1 ≠ H.next := by omega
  refine aw_drawn [(1, 0), (11, 0), (11, 20), (15, 0)] mixedOrders (by kernel_rfl) ?_
  intro es hes
  simp [n3, opsC]
  refine ⟨_, _, rf_op7 a b _ _ (by simp), Nat.le_refl _, ?_⟩
  simp [n3, opsC]
  refine ⟨_, _, same_live _ _ _ _ (by simp), Nat.le_refl _, ?_⟩
  simp [rds, heapF, n3, opsC]
  subst hes
  exact ⟨by kernel_rfl, by kernel_rfl⟩

set_option maxHeartbeats 4000000 in
set_option maxRecDepth 100000 in
theorem ops_run8 (a b : Int) (H : AHeap) : Does Tryz.prog (Gof tab) 3 [.int .i64 8, .int .i64 a, .int .i64 b] H fun r _ => r = .bool true := by
  refine Does.wf Tryz.call3 fun hw _ => ?_
  refine does_f Tryz.call3 Tryz.func3 rfl (by simp [Tryz.f3]) ?_
  simp
  refine does_use (awake12 _) ?_
  rintro _ HX ⟨rfl, hHX⟩
  rw [hHX]
  clear hHX HX
  simp
  refine does_use (text_live (op8does a b) (H.push (.cells opsC)) fun j x hj => ops_low hw hj) ?_
  rintro _ HX ⟨rfl, hHX⟩
  rw [hHX]
  clear hHX HX
  simp [op8ok]
  have n3 : H.next ≠ H.next + 1 + 1 + 1 := by omega
  have nk : H.next + 1 + 1 + 1 + 1 ≠ H.next := by omega
  refine aw_drawn [(1, 0), (11, 0), (11, 20), (15, 0)] mixedOrders (by kernel_rfl) ?_
  intro es hes
  simp [n3, opsC]
  refine ⟨_, _, rf_op8 a b _ _ (by simp), Nat.le_refl _, ?_⟩
  simp [n3, opsC]
  refine ⟨_, _, same_live _ _ _ _ (by simp), Nat.le_refl _, ?_⟩
  simp [rds, heapF, n3, opsC]
  subst hes
  exact ⟨by kernel_rfl, by kernel_rfl⟩

set_option maxHeartbeats 4000000 in
set_option maxRecDepth 100000 in
theorem ops_run9 (a b : Int) (H : AHeap) : Does Tryz.prog (Gof tab) 3 [.int .i64 9, .int .i64 a, .int .i64 b] H fun r _ => r = .bool true := by
  refine Does.wf Tryz.call3 fun hw _ => ?_
  refine does_f Tryz.call3 Tryz.func3 rfl (by simp [Tryz.f3]) ?_
  simp
  refine does_use (awake12 _) ?_
  rintro _ HX ⟨rfl, hHX⟩
  rw [hHX]
  clear hHX HX
  simp
  refine does_use (text_live (op9does a b) (H.push (.cells opsC)) fun j x hj => ops_low hw hj) ?_
  rintro _ HX ⟨rfl, hHX⟩
  rw [hHX]
  clear hHX HX
  simp [op9ok]
  have n3 : H.next ≠ H.next + 1 + 1 + 1 := by omega
  have nk : H.next + 1 + 1 + 1 + 1 ≠ H.next := by omega
  refine aw_drawn [(1, 0), (11, 0), (11, 20), (15, 0)] mixedOrders (by kernel_rfl) ?_
  intro es hes
  simp [n3, opsC]
  refine ⟨_, _, rf_op9 a b _ _ (by simp), Nat.le_refl _, ?_⟩
  simp [n3, opsC]
  refine ⟨_, _, same_live _ _ _ _ (by simp), Nat.le_refl _, ?_⟩
  simp [rds, heapF, n3, opsC]
  subst hes
  exact ⟨by kernel_rfl, by kernel_rfl⟩

set_option maxHeartbeats 4000000 in
set_option maxRecDepth 100000 in
theorem ops_run10 (a b : Int) (H : AHeap) : Does Tryz.prog (Gof tab) 3 [.int .i64 10, .int .i64 a, .int .i64 b] H fun r _ => r = .bool true := by
  refine Does.wf Tryz.call3 fun hw _ => ?_
  refine does_f Tryz.call3 Tryz.func3 rfl (by simp [Tryz.f3]) ?_
  simp
  refine does_use (awake12 _) ?_
  rintro _ HX ⟨rfl, hHX⟩
  rw [hHX]
  clear hHX HX
  simp
  refine does_use (text_live (op10does a b) (H.push (.cells opsC)) fun j x hj => ops_low hw hj) ?_
  rintro _ HX ⟨rfl, hHX⟩
  rw [hHX]
  clear hHX HX
  simp [op10ok]
  have n3 : H.next ≠ H.next + 1 + 1 + 1 := by omega
  have nk : H.next + 1 + 1 + 1 + 1 ≠ H.next := by omega
  refine aw_drawn [(1, 0), (11, 0), (11, 20), (15, 0)] mixedOrders (by kernel_rfl) ?_
  intro es hes
  simp [n3, opsC]
  refine ⟨_, _, rf_op10 a b _ _ (by simp), Nat.le_refl _, ?_⟩
  simp [n3, opsC]
  refine ⟨_, _, same_live _ _ _ _ (by simp), Nat.le_refl _, ?_⟩
  simp [rds, heapF, n3, opsC]
  subst hes
  exact ⟨by kernel_rfl, by kernel_rfl⟩

set_option maxHeartbeats 4000000 in
set_option maxRecDepth 100000 in
theorem ops_run (n a b : Int) (H : AHeap) : Does Tryz.prog (Gof tab) 3 [.int .i64 n, .int .i64 a, .int .i64 b] H fun r _ => r = .bool true := by
  by_cases h0 : n < 0
  · refine does_f Tryz.call3 Tryz.func3 rfl (by simp [Tryz.f3]) ?_
    simp
    refine does_use (awake12 _) ?_
    rintro _ HX ⟨rfl, hHX⟩
    rw [hHX]
    clear hHX HX
    simp [h0]
  by_cases h1 : 11 ≤ n
  · refine does_f Tryz.call3 Tryz.func3 rfl (by simp [Tryz.f3]) ?_
    simp
    refine does_use (awake12 _) ?_
    rintro _ HX ⟨rfl, hHX⟩
    rw [hHX]
    clear hHX HX
    simp [h0, h1]
  obtain ⟨m, rfl⟩ : ∃ m : Nat, n = m := ⟨n.toNat, by omega⟩
  have hm : m = 0 ∨ m = 1 ∨ m = 2 ∨ m = 3 ∨ m = 4 ∨ m = 5 ∨ m = 6 ∨ m = 7 ∨ m = 8 ∨ m = 9 ∨ m = 10 := by omega
  rcases hm with rfl | rfl | rfl | rfl | rfl | rfl | rfl | rfl | rfl | rfl | rfl
  · exact ops_run0 a b H
  · exact ops_run1 a b H
  · exact ops_run2 a b H
  · exact ops_run3 a b H
  · exact ops_run4 a b H
  · exact ops_run5 a b H
  · exact ops_run6 a b H
  · exact ops_run7 a b H
  · exact ops_run8 a b H
  · exact ops_run9 a b H
  · exact ops_run10 a b H
set_option maxRecDepth 1000000 in
theorem ops_any (H : AHeap) (a0 a1 a2 : AV) (s0 : Shp Tryz.prog 8 3 [a0]) (s1 : Shp Tryz.prog 8 2 [a1]) (s2 : Shp Tryz.prog 8 2 [a2]) : Does Tryz.prog (Gof tab) 3 [a0, a1, a2] H fun r _ => r = .bool true := by
  unfold Shp at s0 s1 s2
  rw [Tryz.underlying3] at s0
  rw [Tryz.underlying2] at s1 s2
  obtain ⟨n, hn, _⟩ := s0
  obtain ⟨a, ha, _⟩ := s1
  obtain ⟨b, hb, _⟩ := s2
  cases hn
  cases ha
  cases hb
  exact ops_run n a b H
end Go.Proofs.YtnnlgafmpobdhaaGreatDoor
