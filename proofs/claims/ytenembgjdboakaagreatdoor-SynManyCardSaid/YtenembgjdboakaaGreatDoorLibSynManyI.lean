/-
  Own library of this claim, part 9: texts one behind the other (SyM).
-/
import Derived.Test.YtenembgjdboakaaGreatDoorLibSynManyH

/-
  SynMany: as many nodes, as many names as there may be, and no more.
-/



namespace Go.Proofs.YtenembgjdboakaaGreatDoor
open Go Go.Abs Go.Lex
set_option linter.unusedSimpArgs false
set_option maxRecDepth 100000

theorem err_nodes (n : Nat) (h1 : 1 ≤ n) (h2 : n ≤ 40) : errOf (repB n nodeT) = if n ≤ 32 then 0 else 2 := by
  have e1 := many1
  have e2 := many2
  have e3 := many3
  have e4 := many4
  rw [List.all_eq_true] at e1 e2 e3 e4
  by_cases c1 : n ≤ 28
  · rw [if_pos (by omega)]
    have := e1 (n - 1) (by simp; omega)
    rw [show n - 1 + 1 = n by omega] at this
    exact (errIs_of this).1
  by_cases c2 : n ≤ 32
  · rw [if_pos c2]
    have := e2 (n - 29) (by simp; omega)
    rw [show n - 29 + 29 = n by omega] at this
    exact (errIs_of this).1
  rw [if_neg c2]
  by_cases c3 : n ≤ 36
  · have := e3 (n - 33) (by simp; omega)
    rw [show n - 33 + 33 = n by omega] at this
    exact (errIs_of this).1
  · have := e4 (n - 37) (by simp; omega)
    rw [show n - 37 + 37 = n by omega] at this
    exact (errIs_of this).1
theorem err_names (n : Nat) (h1 : 1 ≤ n) (h2 : n ≤ 80) : errOf (namesT (n - 1)) = if n ≤ 64 then 0 else 2 := by
  have e1 := names1
  have e2 := names2
  rw [List.all_eq_true] at e1 e2
  by_cases c1 : n ≤ 64
  · rw [if_pos c1]
    exact (errIs_of (e1 (n - 1) (by simp; omega))).1
  · rw [if_neg c1]
    have := e2 (n - 65) (by simp; omega)
    rw [show n - 65 + 64 = n - 1 by omega] at this
    exact (errIs_of this).1

set_option maxHeartbeats 4000000 in
theorem many_run (H : AHeap) (a b : Int) : Does Tryz.prog (Gof tab) 8 [.int .i64 a, .int .i64 b] H fun r _ => r = .bool true := by
  refine does_f Tryz.call8 Tryz.func8 rfl (by simp [Tryz.f8]) ?_
  simp
  refine does_use (awake5 _) ?_
  rintro _ H0 ⟨rfl, rfl⟩
  by_cases a1 : a < 1
  · simp [a1]
  by_cases a2 : 40 < a
  · simp [a1, a2]
  by_cases b1 : b < 1
  · simp [a1, a2, b1]
  by_cases b2 : 80 < b
  · simp [a1, a2, b1, b2]
  obtain ⟨N, rfl⟩ : ∃ n : Nat, a = n := ⟨a.toNat, by omega⟩
  obtain ⟨M, rfl⟩ : ∃ n : Nat, b = n := ⟨b.toNat, by omega⟩
  have hN := err_nodes N (by omega) (by omega)
  have hM := err_names M (by omega) (by omega)
  simp [a1, a2, b1, b2]
  refine aws_loopw (fun m T' H' => ∃ i : Nat, i + m = N ∧ T' 0 = .int .i64 N ∧ T' 1 = .int .i64 M ∧ T' 5 = .str (repB i nodeT) ∧ T' 6 = .int .i64 i) N ⟨0, by omega, by simp, by simp, by simp [repB], by simp⟩ ?_
  rintro m T H1 ⟨i, hi, t0, t1, t5, t6⟩ hw1 _
  have w1 : IntKind.i64.wrap ((i : Int) + 1) = i + 1 := IntWalk.i64_in _ (by omega)
  by_cases hlt : i < N
  · have hl : (repB i nodeT).length + nodeT.length ≤ 9223372036854775807 := by rw [repB_len]; have : nodeT.length = 35 := rfl; rw [this]; omega
    have hsn : repB i nodeT ++ [110, 111, 100, 101, 32, 102, 40, 41, 32, 114, 101, 116, 117, 114, 110, 115, 32, 40, 121, 58, 32, 105, 110, 116, 41, 59, 32, 108, 101, 116, 32, 116, 101, 108, 32] = repB (i + 1) nodeT := (repB_snoc nodeT i).symm
    have hl2 : (repB i nodeT).length ≤ 9223372036854775772 := by have : nodeT.length = 35 := rfl; omega
    simp [t0, t1, t5, t6, hlt, w1, hl2, hsn]
    exact ⟨m - 1, by omega, i + 1, by omega, rfl, by simp⟩
  · have : i = N := by omega
    subst this
    simp [t0, t1, t5, t6]
    refine does_use (p_parse (repB i nodeT) hasErr _ (by rw [repB_len]; have : nodeT.length = 35 := rfl; rw [this]; omega)) ?_
    rintro _ H2 ⟨rfl, hH2⟩
    rw [hH2]
    clear hH2 H2
    obtain ⟨x, n, hx, hxs⟩ := parseAns_err (repB i nodeT)
    rw [hx, hN]
    obtain ⟨e1, he1⟩ : ∃ e1 : Nat, e1 = if i ≤ 32 then 0 else 2 := ⟨_, rfl⟩
    rw [← he1]
    simp [t0, t1]
    refine aws_loopw (fun m T' H' => ∃ j : Nat, 1 ≤ j ∧ j + m = M ∧ T' 0 = .int .i64 i ∧ T' 1 = .int .i64 M ∧ T' 8 = .ptr H1.next 0 ∧ T' 9 = .str (121 :: repB (j - 1) [44, 32, 121]) ∧ T' 10 = .int .i64 j ∧ H'.get H1.next = some (.cells [.int .i64 e1, .int .i64 n])) (M - 1)
      ⟨1, by omega, by omega, by simp [t0], by simp [t1], by simp, by simp [repB], by simp, by simp⟩ ?_
    clear hw1
    rintro m T H2 ⟨j, hj1, hj, t0, t1, t8, t9, t10, hg⟩ hw2 _
    have w2 : IntKind.i64.wrap ((j : Int) + 1) = j + 1 := IntWalk.i64_in _ (by omega)
    by_cases hlt2 : j < M
    · have hsn : repB (j - 1) [44, 32, 121] ++ [44, 32, 121] = repB j [44, 32, 121] := by
        rw [← repB_snoc, show j - 1 + 1 = j by omega]
      have hl2 : (repB (j - 1) [44, 32, 121]).length ≤ 9223372036854775803 := by rw [repB_len]; simp; omega
      simp [t0, t1, t8, t9, t10, hlt2, w2, hl2, hsn]
      exact ⟨m - 1, by omega, j + 1, by omega, by omega, rfl, by simp, hg⟩
    · have : j = M := by omega
      subst this
      have hl2 : (repB (j - 1) [44, 32, 121]).length ≤ 1000 := by rw [repB_len]; simp; omega
      have hA : 18 + ((repB (j - 1) [44, 32, 121]).length + 1) ≤ 9223372036854775807 := by omega
      have hB : (repB (j - 1) [44, 32, 121]).length ≤ 9223372036854775773 := by omega
      have hL : (namesT (j - 1)).length < 9223372036854775808 := by unfold namesT; simp; omega
      simp [t0, t1, t8, t9, t10, hA, hB]
      refine does_use (p_parse (namesT (j - 1)) hasErr _ hL) ?_
      rintro _ H3 ⟨rfl, hH3⟩
      rw [hH3]
      clear hH3 H3
      obtain ⟨x2, n2, hx2, hxs2⟩ := parseAns_err (namesT (j - 1))
      rw [hx2, hM]
      obtain ⟨e2, he2⟩ : ∃ e2 : Nat, e2 = if j ≤ 64 then 0 else 2 := ⟨_, rfl⟩
      rw [← he2]
      have n8 : H1.next ≠ H2.next := by have := next_lt hw2 hg; omega
      by_cases ci : i ≤ 32
      · have ci' : (i : Int) ≤ 32 := by omega
        rw [if_pos ci] at he1
        subst he1
        by_cases cj : j ≤ 64
        · have cj' : (j : Int) ≤ 64 := by omega
          rw [if_pos cj] at he2
          subst he2
          simp [t0, t1, t8, hg, n8, ci', cj']
        · have cj' : ¬ (j : Int) ≤ 64 := by omega
          rw [if_neg cj] at he2
          subst he2
          simp [t0, t1, t8, hg, n8, ci', cj']
      · have ci' : ¬ (i : Int) ≤ 32 := by omega
        rw [if_neg ci] at he1
        subst he1
        by_cases cj : j ≤ 64
        · have cj' : (j : Int) ≤ 64 := by omega
          rw [if_pos cj] at he2
          subst he2
          simp [t0, t1, t8, hg, n8, ci', cj']
        · have cj' : ¬ (j : Int) ≤ 64 := by omega
          rw [if_neg cj] at he2
          subst he2
          simp [t0, t1, t8, hg, n8, ci', cj']

theorem many_law (H : AHeap) (a b : AV) (ha : Shp Tryz.prog 8 3 [a]) (hb : Shp Tryz.prog 8 3 [b]) : Does Tryz.prog (Gof tab) 8 [a, b] H fun r _ => r = .bool true := by
  unfold Shp at ha hb
  rw [Tryz.underlying3] at ha hb
  obtain ⟨i, h1, _⟩ := ha
  obtain ⟨k, h2, _⟩ := hb
  simp only [List.cons.injEq, and_true] at h1 h2
  subst h1; subst h2
  exact many_run H i k
end Go.Proofs.YtenembgjdboakaaGreatDoor
