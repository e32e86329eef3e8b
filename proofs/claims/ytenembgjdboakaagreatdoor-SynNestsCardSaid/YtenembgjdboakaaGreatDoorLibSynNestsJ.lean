/-
  Own library of this claim, part 10: texts one behind the other (SyN).
-/
import Derived.Test.YtenembgjdboakaaGreatDoorLibSynNestsI

/-
  SynNests: an expression may be so deep, of so many parts, and no more.
-/

namespace Go.Proofs.YtenembgjdboakaaGreatDoor
open Go Go.Abs Go.Lex
set_option linter.unusedSimpArgs false
set_option maxRecDepth 100000

theorem and3 (b : Int) : ∃ r : Nat, r < 4 ∧ IntKind.i64.wrap (((b % 2 ^ IntKind.i64.bits).toNat &&& (3 % 2 ^ IntKind.i64.bits) : Nat) : Int) = (r : Int) := by
  refine ⟨(b % 2 ^ IntKind.i64.bits).toNat &&& (3 % 2 ^ IntKind.i64.bits), ?_, ?_⟩
  · have h := Nat.and_le_right (n := (b % 2 ^ IntKind.i64.bits).toNat) (m := 3 % 2 ^ IntKind.i64.bits)
    have e : 3 % 2 ^ IntKind.i64.bits = 3 := by decide
    rw [e] at h ⊢
    omega
  · have h := Nat.and_le_right (n := (b % 2 ^ IntKind.i64.bits).toNat) (m := 3 % 2 ^ IntKind.i64.bits)
    have e : 3 % 2 ^ IntKind.i64.bits = 3 := by decide
    rw [e] at h ⊢
    exact IntWalk.i64_in _ (by omega)
set_option maxHeartbeats 8000000 in
theorem nests_run (H : AHeap) (a b : Int) : Does Tryz.prog (Gof tab) 6 [.int .i64 a, .int .i64 b] H fun r _ => r = .bool true := by
  refine does_f Tryz.call6 Tryz.func6 rfl (by simp [Tryz.f6]) ?_
  simp
  refine does_use (awake5 _) ?_
  rintro _ H0 ⟨rfl, rfl⟩
  by_cases a1 : a < 0
  · simp [a1]
  by_cases a2 : 320 < a
  · simp [a1, a2]
  obtain ⟨N, rfl⟩ : ∃ n : Nat, a = n := ⟨a.toNat, by omega⟩
  have hN : N ≤ 320 := by omega
  obtain ⟨r, hr4, hr⟩ := and3 b
  simp [a1, a2, hr]
  by_cases r3 : r = 3
  · subst r3
    have hE := err3 N hN
    simp
    refine aws_loopw (fun m T' H' => ∃ i : Nat, i + m = N ∧ T' 0 = .int .i64 N ∧ T' 5 = .str (repB i [97, 32, 43, 32]) ∧ T' 7 = .int .i64 i) N ⟨0, by omega, by simp, by simp [repB], by simp⟩ ?_
    rintro m T H1 ⟨i, hi, t0, t5, t7⟩ hw1 _
    have w1 : IntKind.i64.wrap ((i : Int) + 1) = i + 1 := IntWalk.i64_in _ (by omega)
    have hrl : (repB i [97, 32, 43, 32]).length = i * 4 := by rw [repB_len]; rfl
    by_cases hlt : i < N
    · have hsn : repB i [97, 32, 43, 32] ++ [97, 32, 43, 32] = repB (i + 1) [97, 32, 43, 32] := (repB_snoc _ i).symm
      have hl2 : (repB i [97, 32, 43, 32]).length ≤ 9223372036854775803 := by omega
      simp [t0, t5, t7, hlt, w1, hl2, hsn]
      exact ⟨m - 1, by omega, i + 1, by omega, rfl, by simp⟩
    · have : i = N := by omega
      subst this
      have hA : 35 + (repB i [97, 32, 43, 32]).length ≤ 9223372036854775807 := by omega
      have hB : (repB i [97, 32, 43, 32]).length ≤ 9223372036854775766 := by omega
      have w2 : IntKind.i64.wrap (2 * (i : Int)) = 2 * i := IntWalk.i64_in _ (by omega)
      have w3 : IntKind.i64.wrap (2 * (i : Int) + 1) = 2 * i + 1 := IntWalk.i64_in _ (by omega)
      simp [t0, t5, t7, hA, hB]
      have ht : (110 :: 111 :: 100 :: 101 :: 32 :: 102 :: 40 :: 41 :: 32 :: 114 :: 101 :: 116 :: 117 :: 114 :: 110 :: 115 :: 32 :: 40 :: 121 :: 58 :: 32 :: 105 :: 110 :: 116 :: 41 :: 59 :: 32 :: 108 :: 101 :: 116 :: 32 :: 121 :: 32 :: 61 :: 32 :: (repB i [97, 32, 43, 32] ++ [97, 59, 32, 116, 101, 108]) : Bs) = nestT [97, 32, 43, 32] [] i := by simp [nestT, repB_none]
      have hL : (nestT [97, 32, 43, 32] [] i).length < 9223372036854775808 := by rw [← ht]; simp; omega
      rw [ht]
      refine does_use (p_parse (nestT [97, 32, 43, 32] [] i) hasErr _ hL) ?_
      rintro _ H2 ⟨rfl, hH2⟩
      rw [hH2]
      clear hH2 H2
      obtain ⟨x, n, hx, hxs⟩ := parseAns_err (nestT [97, 32, 43, 32] [] i)
      rw [hx, hE]
      by_cases cn : i < 150
      · have cn' : 2 * (i : Int) + 1 ≤ 300 := by omega
        rw [if_pos cn]
        simp [t0, w2, w3, cn']
      · have cn' : ¬ (2 * (i : Int) + 1 ≤ 300) := by omega
        rw [if_neg cn]
        simp [t0, w2, w3, cn']
  by_cases r0 : r = 0
  · subst r0
    have hE := err0 N hN
    simp
    refine aws_loopw (fun m T' H' => ∃ i : Nat, i + m = N ∧ T' 0 = .int .i64 N ∧ T' 1 = .int .i64 b ∧ T' 5 = .str (repB i [40]) ∧ T' 6 = .str (repB i [41]) ∧ T' 10 = .int .i64 i) N ⟨0, by omega, by simp, by simp, by simp [repB], by simp [repB], by simp⟩ ?_
    rintro m T H1 ⟨i, hi, t0, t1, t5, t6, t10⟩ hw1 _
    have w1 : IntKind.i64.wrap ((i : Int) + 1) = i + 1 := IntWalk.i64_in _ (by omega)
    have hrl : (repB i [40]).length = i * 1 := by rw [repB_len]; rfl
    have hrc : (repB i [41]).length = i * 1 := by rw [repB_len]; rfl
    by_cases hlt : i < N
    · have hsn : repB i [40] ++ [40] = repB (i + 1) [40] := (repB_snoc _ i).symm
      have hsc : repB i [41] ++ [41] = repB (i + 1) [41] := (repB_snoc _ i).symm
      have hl2 : (repB i [40]).length ≤ 9223372036854775806 := by omega
      have hlc : (repB i [41]).length ≤ 9223372036854775806 := by omega
      simp [t0, t1, t5, t6, t10, hr, hlt, w1, hl2, hsn, hlc, hsc]
      exact ⟨m - 1, by omega, i + 1, by omega, rfl, rfl, by simp⟩
    · have : i = N := by omega
      subst this
      have hA : 35 + (repB i [40]).length ≤ 9223372036854775807 := by omega
      have hB : (repB i [40]).length ≤ 9223372036854775771 := by omega
      have hC : (repB i [40]).length + (repB i [41]).length ≤ 9223372036854775771 := by omega
      have hB2 : (repB i [40]).length ≤ 9223372036854775766 := by omega
      have hD : (repB i [40]).length + ((repB i [41]).length + 1) ≤ 9223372036854775767 := by omega
      simp [t0, t1, t5, t6, t10, hA, hB, hB2]
      rw [if_pos (by omega)]
      simp [t0, t1, t5, t6, t10, hD]
      have ht : (110 :: 111 :: 100 :: 101 :: 32 :: 102 :: 40 :: 41 :: 32 :: 114 :: 101 :: 116 :: 117 :: 114 :: 110 :: 115 :: 32 :: 40 :: 121 :: 58 :: 32 :: 105 :: 110 :: 116 :: 41 :: 59 :: 32 :: 108 :: 101 :: 116 :: 32 :: 121 :: 32 :: 61 :: 32 :: (repB i [40] ++ 97 :: (repB i [41] ++ [59, 32, 116, 101, 108])) : Bs) = nestT [40] [41] i := by simp [nestT, repB_none]
      have hL : (nestT [40] [41] i).length < 9223372036854775808 := by rw [← ht]; simp; omega
      rw [ht]
      refine does_use (p_parse (nestT [40] [41] i) hasErr _ hL) ?_
      rintro _ H2 ⟨rfl, hH2⟩
      rw [hH2]
      clear hH2 H2
      obtain ⟨x, n, hx, hxs⟩ := parseAns_err (nestT [40] [41] i)
      rw [hx, hE]
      by_cases cn : i < 30
      · have cn' : (i : Int) ≤ 29 := by omega
        rw [if_pos cn]
        simp [t0, cn']
      · have cn' : ¬ ((i : Int) ≤ 29) := by omega
        rw [if_neg cn]
        simp [t0, cn']
  by_cases r1 : r = 1
  · subst r1
    have hE := err1 N hN
    simp
    refine aws_loopw (fun m T' H' => ∃ i : Nat, i + m = N ∧ T' 0 = .int .i64 N ∧ T' 1 = .int .i64 b ∧ T' 5 = .str (repB i [112, 114, 101, 32]) ∧ T' 6 = .str [] ∧ T' 10 = .int .i64 i) N ⟨0, by omega, by simp, by simp, by simp [repB], by simp, by simp⟩ ?_
    rintro m T H1 ⟨i, hi, t0, t1, t5, t6, t10⟩ hw1 _
    have w1 : IntKind.i64.wrap ((i : Int) + 1) = i + 1 := IntWalk.i64_in _ (by omega)
    have hrl : (repB i [112, 114, 101, 32]).length = i * 4 := by rw [repB_len]; rfl
    have hrc : (repB i [41]).length = i * 1 := by rw [repB_len]; rfl
    by_cases hlt : i < N
    · have hsn : repB i [112, 114, 101, 32] ++ [112, 114, 101, 32] = repB (i + 1) [112, 114, 101, 32] := (repB_snoc _ i).symm
      have hsc : repB i [41] ++ [41] = repB (i + 1) [41] := (repB_snoc _ i).symm
      have hl2 : (repB i [112, 114, 101, 32]).length ≤ 9223372036854775803 := by omega
      have hlc : (repB i [41]).length ≤ 9223372036854775806 := by omega
      simp [t0, t1, t5, t6, t10, hr, hlt, w1, hl2, hsn, hlc, hsc]
      exact ⟨m - 1, by omega, i + 1, by omega, rfl, by simp⟩
    · have : i = N := by omega
      subst this
      have hA : 35 + (repB i [112, 114, 101, 32]).length ≤ 9223372036854775807 := by omega
      have hB : (repB i [112, 114, 101, 32]).length ≤ 9223372036854775771 := by omega
      have hC : (repB i [112, 114, 101, 32]).length + (repB i [41]).length ≤ 9223372036854775771 := by omega
      have hB2 : (repB i [112, 114, 101, 32]).length ≤ 9223372036854775766 := by omega
      have hD : (repB i [112, 114, 101, 32]).length + ((repB i [41]).length + 1) ≤ 9223372036854775767 := by omega
      simp [t0, t1, t5, t6, t10, hA, hB, hB2]
      have ht : (110 :: 111 :: 100 :: 101 :: 32 :: 102 :: 40 :: 41 :: 32 :: 114 :: 101 :: 116 :: 117 :: 114 :: 110 :: 115 :: 32 :: 40 :: 121 :: 58 :: 32 :: 105 :: 110 :: 116 :: 41 :: 59 :: 32 :: 108 :: 101 :: 116 :: 32 :: 121 :: 32 :: 61 :: 32 :: (repB i [112, 114, 101, 32] ++ 97 :: [59, 32, 116, 101, 108]) : Bs) = nestT [112, 114, 101, 32] [] i := by simp [nestT, repB_none]
      have hL : (nestT [112, 114, 101, 32] [] i).length < 9223372036854775808 := by rw [← ht]; simp; omega
      rw [ht]
      refine does_use (p_parse (nestT [112, 114, 101, 32] [] i) hasErr _ hL) ?_
      rintro _ H2 ⟨rfl, hH2⟩
      rw [hH2]
      clear hH2 H2
      obtain ⟨x, n, hx, hxs⟩ := parseAns_err (nestT [112, 114, 101, 32] [] i)
      rw [hx, hE]
      by_cases cn : i < 30
      · have cn' : (i : Int) ≤ 29 := by omega
        rw [if_pos cn]
        simp [t0, cn']
      · have cn' : ¬ ((i : Int) ≤ 29) := by omega
        rw [if_neg cn]
        simp [t0, cn']
  have r2 : r = 2 := by omega
  subst r2
  have hE := err2 N hN
  simp
  refine aws_loopw (fun m T' H' => ∃ i : Nat, i + m = N ∧ T' 0 = .int .i64 N ∧ T' 1 = .int .i64 b ∧ T' 5 = .str (repB i [97, 32, 45, 62, 32]) ∧ T' 6 = .str [] ∧ T' 10 = .int .i64 i) N ⟨0, by omega, by simp, by simp, by simp [repB], by simp, by simp⟩ ?_
  rintro m T H1 ⟨i, hi, t0, t1, t5, t6, t10⟩ hw1 _
  have w1 : IntKind.i64.wrap ((i : Int) + 1) = i + 1 := IntWalk.i64_in _ (by omega)
  have hrl : (repB i [97, 32, 45, 62, 32]).length = i * 5 := by rw [repB_len]; rfl
  have hrc : (repB i [41]).length = i * 1 := by rw [repB_len]; rfl
  by_cases hlt : i < N
  · have hsn : repB i [97, 32, 45, 62, 32] ++ [97, 32, 45, 62, 32] = repB (i + 1) [97, 32, 45, 62, 32] := (repB_snoc _ i).symm
    have hsc : repB i [41] ++ [41] = repB (i + 1) [41] := (repB_snoc _ i).symm
    have hl2 : (repB i [97, 32, 45, 62, 32]).length ≤ 9223372036854775802 := by omega
    have hlc : (repB i [41]).length ≤ 9223372036854775806 := by omega
    simp [t0, t1, t5, t6, t10, hr, hlt, w1, hl2, hsn, hlc, hsc]
    exact ⟨m - 1, by omega, i + 1, by omega, rfl, by simp⟩
  · have : i = N := by omega
    subst this
    have hA : 35 + (repB i [97, 32, 45, 62, 32]).length ≤ 9223372036854775807 := by omega
    have hB : (repB i [97, 32, 45, 62, 32]).length ≤ 9223372036854775771 := by omega
    have hC : (repB i [97, 32, 45, 62, 32]).length + (repB i [41]).length ≤ 9223372036854775771 := by omega
    have hB2 : (repB i [97, 32, 45, 62, 32]).length ≤ 9223372036854775766 := by omega
    have hD : (repB i [97, 32, 45, 62, 32]).length + ((repB i [41]).length + 1) ≤ 9223372036854775767 := by omega
    simp [t0, t1, t5, t6, t10, hA, hB, hB2]
    have ht : (110 :: 111 :: 100 :: 101 :: 32 :: 102 :: 40 :: 41 :: 32 :: 114 :: 101 :: 116 :: 117 :: 114 :: 110 :: 115 :: 32 :: 40 :: 121 :: 58 :: 32 :: 105 :: 110 :: 116 :: 41 :: 59 :: 32 :: 108 :: 101 :: 116 :: 32 :: 121 :: 32 :: 61 :: 32 :: (repB i [97, 32, 45, 62, 32] ++ 97 :: [59, 32, 116, 101, 108]) : Bs) = nestT [97, 32, 45, 62, 32] [] i := by simp [nestT, repB_none]
    have hL : (nestT [97, 32, 45, 62, 32] [] i).length < 9223372036854775808 := by rw [← ht]; simp; omega
    rw [ht]
    refine does_use (p_parse (nestT [97, 32, 45, 62, 32] [] i) hasErr _ hL) ?_
    rintro _ H2 ⟨rfl, hH2⟩
    rw [hH2]
    clear hH2 H2
    obtain ⟨x, n, hx, hxs⟩ := parseAns_err (nestT [97, 32, 45, 62, 32] [] i)
    rw [hx, hE]
    by_cases cn : i < 30
    · have cn' : (i : Int) ≤ 29 := by omega
      rw [if_pos cn]
      simp [t0, cn']
    · have cn' : ¬ ((i : Int) ≤ 29) := by omega
      rw [if_neg cn]
      simp [t0, cn']

theorem nests_law (H : AHeap) (a b : AV) (ha : Shp Tryz.prog 8 3 [a]) (hb : Shp Tryz.prog 8 3 [b]) : Does Tryz.prog (Gof tab) 6 [a, b] H fun r _ => r = .bool true := by
  unfold Shp at ha hb
  rw [Tryz.underlying3] at ha hb
  obtain ⟨i, h1, _⟩ := ha
  obtain ⟨k, h2, _⟩ := hb
  simp only [List.cons.injEq, and_true] at h1 h2
  subst h1; subst h2
  exact nests_run H i k
end Go.Proofs.YtenembgjdboakaaGreatDoor
