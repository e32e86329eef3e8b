/-
  Own library of this claim, part 7: texts one behind the other (FmT, FmU, FmV).
-/
import Derived.Test.YthmnpnbcdoemfaaGreatDoorLibFrontManyF

namespace Go.Proofs.YthmnpnbcdoemfaaGreatDoor
open Go Go.Abs Go.Lex
set_option linter.unusedSimpArgs false
set_option linter.unusedVariables false
theorem rowF_is : ∀ i, ∃ op enm p K a b qp np, rowF i = rowC (Syn.nmF i) op enm p K a b qp np ∧ RowK op enm K
  | 0 => ⟨_, _, _, _, _, _, _, _, rfl, .inl ⟨rfl, rfl, rfl⟩⟩
  | i + 1 => ⟨_, _, _, _, _, _, _, _, rfl, .inr ⟨rfl, _, rfl⟩⟩
theorem rowF_lt (n : Nat) : ∀ i, AV.allLt n (rowF i) = true
  | 0 => rfl
  | _ + 1 => rfl
theorem allLt_apq (n : Nat) : ∀ l l' : List AV, AV.allLt n (l ++ l') = (AV.allLt n l && AV.allLt n l')
  | [], _ => by simp [AV.allLt]
  | a :: l, l' => by simp [AV.allLt, allLt_apq n l l', Bool.and_assoc]
theorem rowsF_lt (n : Nat) : ∀ i, AV.allLt n (rowsF i) = true
  | 0 => rfl
  | i + 1 => by rw [rowsF, allLt_apq, rowsF_lt n i, rowF_lt]; rfl
theorem rowsF_at {i n : Nat} (h : i < n) : ((rowsF n).drop (i * 6)).take 6 = rowF i := by
  obtain ⟨R, hR⟩ := rowsF_split h
  rw [hR, List.drop_left' (rowsF_len i), List.take_left' (rowF_len i)]
theorem name_node {i n : Nat} (hi : i < n) (hn : n ≤ 32) {k : Nat} {H : AHeap} (hk : H.get k = some (.cells (chkC (rowsF n) i))) : Does Tryz.prog (Gof tab) 60 [.ptr k 0] H fun x h => x = .int .i64 (-1) ∧ ∀ j x, j ≠ k → H.get j = some x → h.get j = some x := by
  obtain ⟨R, hR⟩ := rowsF_split hi
  have hlt : ∀ m, AV.allLt m (chkC (rowsF n) i) = true := fun m => by simp [chkC, AV.allLt, AV.idLt, allLt_apq, rowsF_lt, rowF_lt]
  refine one_new (fuel := 100000) (n := 300) mixed5 plain5 knownI_good gof_tab5 (hlt 0) (hlt 1) (fun _ => rfl) (fun Q => ?_) hk
  rw [hR]
  exact nck _ Q i (by omega)
set_option maxHeartbeats 8000000 in
set_option maxRecDepth 100000 in
theorem name_row {n : Nat} (hn : n ≤ 32) (H : AHeap) : Does Tryz.prog (Gof tab) 25 [.vsl (rowsF n) n] H fun r h => r = .agg [.int .i64 0, .int .i64 0] ∧ h = H := by
  refine kept (fun _ => rfl) (Does.wf Tryz.call25 fun hw _ => ?_)
  refine does_f Tryz.call25 Tryz.func25 rfl (by simp [Tryz.f25]) ?_
  have hlen := rowsF_len n
  have hnode := fun i (hi : i < n) k H h => name_node hi hn (k := k) (H := H) h
  have hrow := fun i (hi : i < n) => rowsF_at hi
  generalize rowsF n = cs at *
  simp
  refine aws_loopw (fun m T' H' => ∃ i : Nat, i + m = n ∧ T' 0 = .vsl cs n ∧ T' 2 = .ptr H.next 0 ∧ T' 7 = .vsl cs n ∧ T' 8 = .int .i64 n ∧ T' 9 = .int .i64 i ∧ H'.get H.next = some (.cells [.int .i64 0, .int .i64 0]) ∧ ∀ j x, H.get j = some x → H'.get j = some x) n ⟨0, by simp, by simp, by simp, by simp, by simp, by simp, by simp, fun j x hj => off1 hw hj⟩ ?_
  rintro m T H1 ⟨i, him, t0, t2, t7, t8, t9, hf, hkp⟩ hw1 _
  by_cases hi : i < n
  · have hii : (i : Int) < n := by omega
    have hat := hrow i hi
    have hnd := hnode i hi
    obtain ⟨op, enm, p, K, a, b, qp, np, hro, hrk⟩ := rowF_is i
    simp only [chkC] at hnd
    rw [hro] at hat hnd
    obtain ⟨hK, hKc, hKi⟩ := hrk.sc
    have h6 : 6 ≤ cs.length - i * 6 := by omega
    have wr : IntKind.i64.wrap ((i : Int) + 1) = ((i + 1 : Nat) : Int) := by rw [IntWalk.i64_in _ (by omega)]; omega
    have e0 : H.next ≠ H1.next := by have := (hw1 _ _ hf).1; omega
    have e2 : H.next ≠ H1.next + 1 := by have := (hw1 _ _ hf).1; omega
    have e3 : H1.next ≠ H1.next + 1 := by omega
    have hle : i ≤ n := by omega
    have hle2 : (i : Int) ≤ n := by omega
    generalize Syn.nmF i = nm at *
    simp only [rowC, eqC, List.cons_append, List.nil_append] at hat hnd
    simp [t0, t2, t7, t8, t9, hii, hi, hat, h6]
    refine aw_drawn [(3, 0)] mixedOrders (by kernel_rfl) ?_
    intro es hes
    have hn0 : 0 < n := by omega
    simp [rds, heapF, t0, t2, t7, t8, t9, hle, hle2, hn0, e3]
    subst hes
    refine ⟨⟨by kernel_rfl, by kernel_rfl⟩, ?_⟩
    refine does_use (hnd (H1.next + 1) _ (by simp)) ?_
    rintro r H4 ⟨rfl, hkp4⟩
    simp [t0, t2, t7, t8, t9, e0, e2, e3, hf]
    refine ⟨m - 1, by omega, i + 1, by omega, wr, hkp4 _ _ e2 (by simp [e0, e2, hf]), fun j x hj => ?_⟩
    have := (hw1 _ _ (hkp j x hj)).1
    have f1 : j ≠ H1.next := by omega
    have f2 : j ≠ H1.next + 1 := by omega
    exact hkp4 _ _ f2 (by simp [f1, f2, hkp j x hj])
  · obtain rfl : i = n := by omega
    simp [t0, t2, t7, t8, t9, hf]
    intro j x hj
    have := (hw _ _ hj).1
    have f1 : j ≠ H.next := by omega
    simp [f1, hkp j x hj]
end Go.Proofs.YthmnpnbcdoemfaaGreatDoor

namespace Go.Proofs.YthmnpnbcdoemfaaGreatDoor
open Go Go.Abs Go.Lex
set_option linter.unusedSimpArgs false
set_option linter.unusedVariables false
theorem ix_new_all : (List.range 32).all (fun i => decide (ixF (Syn.nmF i) ((List.range i).map Syn.nmF) 0 = -1)) = true := by kernel_rfl
theorem ix_old_all : (List.range 31).all (fun i => decide (ixF (Syn.nmF i) ((List.range (i + 1)).map Syn.nmF) 0 = (i : Int))) = true := by kernel_rfl
theorem ix_new {i : Nat} (h : i < 32) : ixF (Syn.nmF i) ((List.range i).map Syn.nmF) 0 = -1 := by
  have := ix_new_all
  rw [List.all_eq_true] at this
  simpa using this i (by simpa using h)
theorem ix_old {i : Nat} (h : i < 31) : ixF (Syn.nmF i) ((List.range (i + 1)).map Syn.nmF) 0 = (i : Int) := by
  have := ix_old_all
  rw [List.all_eq_true] at this
  simpa using this i (by simpa using h)
theorem row_n {n : Nat} (hn : n ≤ 32) : RowN (rowsF n) ((List.range n).map Syn.nmF) := by
  refine ⟨fun i nm hi => ?_, fun m => rowsF_lt m n⟩
  have hlt : i < n := by
    have := (List.getElem?_eq_some_iff.1 hi).1
    simpa using this
  have hnm : nm = Syn.nmF i := by
    rw [List.getElem?_map, List.getElem?_range hlt] at hi
    simpa using hi.symm
  subst hnm
  have ht : ((List.range n).map Syn.nmF).take i = (List.range i).map Syn.nmF := by
    rw [← List.map_take, List.take_range, Nat.min_eq_left (by omega)]
  rw [ht]
  have hat := rowsF_at hlt
  cases i with
  | zero => exact ⟨_, _, _, _, _, _, _, _, hat, .inl ⟨rfl, rfl, rfl⟩, ix_new (by omega), fun h => absurd h (by decide)⟩
  | succ i => exact ⟨_, _, _, _, _, _, _, _, hat, .inr ⟨rfl, _, rfl⟩, ix_new (by omega), fun _ => ⟨i, by omega, ix_old (by omega)⟩⟩
theorem row_at (n : Nat) : RowAt (Gof tab) (rowsF n) n := fun i hi => by
  have hat := rowsF_at hi
  cases i with
  | zero => exact ⟨_, _, _, _, _, _, _, _, _, hat, rfl, rfl, fun k H h => late_v h, fun k H h => wrong_v⟩
  | succ i => exact ⟨_, _, _, _, _, _, _, _, _, hat, rfl, rfl, fun k H h => late_c, fun k H h => wrong_c h⟩
set_option maxHeartbeats 8000000 in
set_option maxRecDepth 100000 in
theorem tree_does {cs : List AV} {n : Nat}
    (h0 : ∀ H, Does Tryz.prog (Gof tab) 25 [.vsl cs n] H fun r h => r = .agg [.int .i64 0, .int .i64 0] ∧ h = H)
    (h1 : ∀ H, Does Tryz.prog (Gof tab) 26 [.vsl cs n] H fun r h => r = .agg [.int .i64 0, .int .i64 0] ∧ h = H)
    (h2 : ∀ H, Does Tryz.prog (Gof tab) 27 [.vsl cs n] H fun r h => r = .agg [.int .i64 0, .int .i64 0] ∧ h = H)
    (h3 : ∀ H, Does Tryz.prog (Gof tab) 28 [.vsl cs n] H fun r h => r = .agg [.int .i64 0, .int .i64 0] ∧ h = H)
    (h4 : ∀ H, Does Tryz.prog (Gof tab) 29 [.vsl cs n] H fun r h => r = .agg [.int .i64 0, .int .i64 0] ∧ h = H) (H : AHeap) :
    Does Tryz.prog (Gof tab) 12 [.vsl cs n] H fun r h => r = .agg [.int .i64 0, .int .i64 0] ∧ h = H := by
  refine kept (fun _ => rfl) (Does.wf Tryz.call12 fun hw _ => ?_)
  refine does_f Tryz.call12 Tryz.func12 rfl (by simp [Tryz.f12]) ?_
  simp
  refine aws_loopw (fun m T' H' => ∃ i : Nat, i + m = 5 ∧ T' 0 = .vsl cs n ∧ T' 2 = .ptr H.next 0 ∧ T' 5 = .int .i64 i ∧ H'.get H.next = some (.cells [.int .i64 0, .int .i64 0]) ∧ ∀ j x, H.get j = some x → H'.get j = some x) 5 ⟨0, by simp, by simp, by simp, by simp, by simp, fun j x hj => off1 hw hj⟩ ?_
  rintro m T H1 ⟨i, him, t0, t2, t5, hf, hkp⟩ hw1 _
  have e0 : H.next ≠ H1.next := by have := (hw1 _ _ hf).1; omega
  have e1 : ∀ j x, H.get j = some x → j ≠ H1.next := fun j x hj => by have := (hw1 _ _ (hkp j x hj)).1; omega
  obtain rfl | rfl | rfl | rfl | rfl | rfl : i = 0 ∨ i = 1 ∨ i = 2 ∨ i = 3 ∨ i = 4 ∨ i = 5 := by omega
  · simp [t0, t2, t5, e0, hf]
    refine does_use (h0 _) ?_
    rintro r H2 ⟨rfl, rfl⟩
    simp [t0, t2, t5, e0, hf]
    exact ⟨4, by omega, 1, by omega, by decide, fun j x hj => by simp [e1 j x hj, hkp j x hj]⟩
  · simp [t0, t2, t5, e0, hf]
    refine does_use (h1 _) ?_
    rintro r H2 ⟨rfl, rfl⟩
    simp [t0, t2, t5, e0, hf]
    exact ⟨3, by omega, 2, by omega, by decide, fun j x hj => by simp [e1 j x hj, hkp j x hj]⟩
  · simp [t0, t2, t5, e0, hf]
    refine does_use (h2 _) ?_
    rintro r H2 ⟨rfl, rfl⟩
    simp [t0, t2, t5, e0, hf]
    exact ⟨2, by omega, 3, by omega, by decide, fun j x hj => by simp [e1 j x hj, hkp j x hj]⟩
  · simp [t0, t2, t5, e0, hf]
    refine does_use (h3 _) ?_
    rintro r H2 ⟨rfl, rfl⟩
    simp [t0, t2, t5, e0, hf]
    exact ⟨1, by omega, 4, by omega, by decide, fun j x hj => by simp [e1 j x hj, hkp j x hj]⟩
  · simp [t0, t2, t5, e0, hf]
    refine does_use (h4 _) ?_
    rintro r H2 ⟨rfl, rfl⟩
    simp [t0, t2, t5, e0, hf]
    exact ⟨0, by omega, 5, by omega, by decide, fun j x hj => by simp [e1 j x hj, hkp j x hj]⟩
  · simp [t0, t2, t5, e0, hf]
    intro j x hj
    have := (hw _ _ hj).1
    have f1 : j ≠ H.next := by omega
    simp [f1, hkp j x hj]
theorem tree_F {n : Nat} (hn : n ≤ 32) (H : AHeap) : Does Tryz.prog (Gof tab) 12 [.vsl (rowsF n) n] H fun r h => r = .agg [.int .i64 0, .int .i64 0] ∧ h = H := by
  have hr := row_n hn
  have hl : ((List.range n).map Syn.nmF).length = n := by simp
  have hI := hr.is
  have hT := typ_row hr (by rw [hl]; omega)
  rw [hl] at hI hT
  exact tree_does (fun H => name_row hn H) hT (fun H => clk_row hI (by omega) H) (fun H => ini_row (row_at n) (by omega) H) (fun H => cau_row hI (by omega) H) H
end Go.Proofs.YthmnpnbcdoemfaaGreatDoor

namespace Go.Proofs.YthmnpnbcdoemfaaGreatDoor
open Go Go.Abs Go.Lex
set_option linter.unusedSimpArgs false
set_option linter.unusedVariables false
theorem ndsV_F {n : Nat} (h : 1 ≤ n) : ndsV (Syn.ndsF n) = .vsl (rowsF n) n := by
  unfold ndsV
  have hl := Syn.ndsF_len n
  rw [if_neg, ndsCells_F, hl]
  intro e
  rw [List.isEmpty_iff] at e
  rw [e] at hl
  simp at hl
  omega
set_option maxHeartbeats 8000000 in
set_option maxRecDepth 100000 in
theorem check_ok {n : Nat} (h1 : 1 ≤ n) (hn : n ≤ 32) (H : AHeap) : Does Tryz.prog (Gof tab) 6 [.str (Syn.textF n)] H fun r h => r = .tuple [.vsl (rowsF n) n, .agg [.int .i64 0, .int .i64 0]] ∧ h = H := by
  have hp := fun H => p_parse (Syn.textF n) hasErr H (by have := Syn.textF_len n; omega)
  simp only [parseAns, Syn.parse_F h1 hn, ndsV_F h1] at hp
  have ht := fun H => tree_F hn H
  have hcs := fun m => rowsF_lt m n
  generalize rowsF n = cs at *
  generalize Syn.textF n = t at *
  refine kept (fun m => by simp [AV.idLt, AV.allLt, hcs m]) (Does.wf Tryz.call6 fun hw _ => ?_)
  refine does_f Tryz.call6 Tryz.func6 rfl (by simp [Tryz.f6]) ?_
  simp
  refine does_use (hp _) ?_
  rintro r H2 ⟨rfl, rfl⟩
  simp
  refine does_use (ht _) ?_
  rintro r H2 ⟨rfl, rfl⟩
  simp
  intro j x hj
  have := (hw _ _ hj).1
  have f1 : j ≠ H.next := by omega
  have f2 : j ≠ H.next + 1 := by omega
  have f3 : j ≠ H.next + 1 + 1 := by omega
  simp [f1, f2, f3, hj]
set_option maxHeartbeats 8000000 in
set_option maxRecDepth 100000 in
theorem check_many {n : Nat} (h1 : 32 < n) (hn : n ≤ 40) (H : AHeap) : Does Tryz.prog (Gof tab) 6 [.str (Syn.textF n)] H fun r h => r = .tuple [.nilsl, .agg [.int .i64 2, .int .i64 1755]] ∧ h = H := by
  have hp := fun H => p_parse (Syn.textF n) hasErr H (by have := Syn.textF_len n; omega)
  simp only [parseAns, Syn.parse_many h1 hn] at hp
  generalize Syn.textF n = t at *
  refine kept (fun _ => rfl) (Does.wf Tryz.call6 fun hw _ => ?_)
  refine does_f Tryz.call6 Tryz.func6 rfl (by simp [Tryz.f6]) ?_
  simp
  refine does_use (hp _) ?_
  rintro r H2 ⟨rfl, rfl⟩
  simp
  refine aw_drawn [(0, 0)] mixedOrders (by kernel_rfl) ?_
  intro es hes
  simp [rds, heapF]
  subst hes
  refine ⟨⟨by kernel_rfl, by kernel_rfl⟩, ?_⟩
  intro j x hj
  have := (hw _ _ hj).1
  have f1 : j ≠ H.next := by omega
  have f2 : j ≠ H.next + 1 := by omega
  simp [f1, f2, hj]
end Go.Proofs.YthmnpnbcdoemfaaGreatDoor
