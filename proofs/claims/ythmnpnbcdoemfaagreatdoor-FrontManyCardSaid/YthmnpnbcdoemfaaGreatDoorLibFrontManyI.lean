/-
  Own library of this claim, part 9: texts one behind the other (FmA, FmX).
-/
import Derived.Test.YthmnpnbcdoemfaaGreatDoorLibFrontManyH

namespace Go.Proofs.YthmnpnbcdoemfaaGreatDoor
open Go Go.Abs Go.Lex
set_option maxRecDepth 100000
theorem awake11_run : fcall knownP Tryz.prog (Gof tab) 100000 300 5 [] FH.empty (litK (.bool true)) = true := by kernel_rfl
theorem awake11 (H : AHeap) : Does Tryz.prog (Gof tab) 5 [] H fun r h => r = .bool true ∧ h = H :=
  lit_does mixed5 plain5 knownP_good gof_tab5 rfl rfl awake11_run H
end Go.Proofs.YthmnpnbcdoemfaaGreatDoor

namespace Go.Proofs.YthmnpnbcdoemfaaGreatDoor
open Go Go.Abs Go.Lex
set_option linter.unusedSimpArgs false
set_option linter.unusedVariables false
theorem byteA_all : (List.range 41).all (fun i => decide (UInt8.ofNat (IntKind.u8.wrap (IntKind.i64.wrap (97 + IntKind.i64.wrap ((i : Int) / 26)))).toNat = UInt8.ofNat (97 + i / 26))) = true := by kernel_rfl
theorem byteB_all : (List.range 41).all (fun i => decide (UInt8.ofNat (IntKind.u8.wrap (IntKind.i64.wrap (97 + (i : Int).tmod 26))).toNat = UInt8.ofNat (97 + i % 26))) = true := by kernel_rfl
theorem byteA {i : Nat} (h : i < 41) : UInt8.ofNat (IntKind.u8.wrap (IntKind.i64.wrap (97 + IntKind.i64.wrap ((i : Int) / 26)))).toNat = UInt8.ofNat (97 + i / 26) := by
  have := byteA_all
  rw [List.all_eq_true] at this
  exact of_decide_eq_true (this i (List.mem_range.2 h))
theorem byteB {i : Nat} (h : i < 41) : UInt8.ofNat (IntKind.u8.wrap (IntKind.i64.wrap (97 + (i : Int).tmod 26))).toNat = UInt8.ofNat (97 + i % 26) := by
  have := byteB_all
  rw [List.all_eq_true] at this
  exact of_decide_eq_true (this i (List.mem_range.2 h))
set_option maxHeartbeats 8000000 in
set_option maxRecDepth 100000 in
theorem many_out {n : Int} (h : n < 1 ∨ 40 < n) (H : AHeap) : Does Tryz.prog (Gof tab) 3 [.int .i64 n] H fun r _ => r = .bool true := by
  refine does_f Tryz.call3 Tryz.func3 rfl (by simp [Tryz.f3]) ?_
  simp
  refine does_use (awake11 _) ?_
  rintro r H2 ⟨rfl, rfl⟩
  rcases h with h | h
  · simp [h]
  · have h1 : ¬ n < 1 := by omega
    simp [h, h1]
set_option maxHeartbeats 8000000 in
set_option maxRecDepth 100000 in
theorem many_in {n : Nat} (h1 : 1 ≤ n) (hn : n ≤ 40) (H : AHeap) : Does Tryz.prog (Gof tab) 3 [.int .i64 n] H fun r _ => r = .bool true := by
  refine does_f Tryz.call3 Tryz.func3 rfl (by simp [Tryz.f3]) ?_
  have g1 : ¬ ((n : Int) < 1) := by omega
  have g2 : ¬ (40 < (n : Int)) := by omega
  simp
  refine does_use (awake11 _) ?_
  rintro r H2 ⟨rfl, rfl⟩
  simp [g1, g2]
  refine aws_loopw (fun m T' H' => ∃ i : Nat, i + m = n ∧ T' 0 = .int .i64 n ∧ T' 3 = .str (Syn.textF i) ∧ T' 4 = .str (Syn.lastF i) ∧ T' 5 = .int .i64 i) n ⟨0, by simp, by simp, by simp [Syn.textF], by simp [Syn.lastF], by simp⟩ ?_
  rintro m T H1 ⟨i, him, t0, t3, t4, t5⟩ hw1 _
  by_cases hi : i < n
  · have hii : (i : Int) < n := by omega
    have wr : IntKind.i64.wrap ((i : Int) + 1) = ((i + 1 : Nat) : Int) := by rw [IntWalk.i64_in _ (by omega)]; omega
    simp [t0, t3, t4, t5, hii, hi]
    have ht : (Syn.textF i).length ≤ 2200 := by have := Syn.textF_len i; omega
    have hu : (Syn.lastF i).length ≤ 6 := by cases i <;> simp [Syn.lastF, Syn.nmF]
    have e3 : Syn.textF (i + 1) = Syn.textF i ++ Syn.pieceF i := rfl
    have e4 : Syn.lastF (i + 1) = Syn.nmF i ++ [40, 120, 41] := rfl
    have e5 : Syn.pieceF i = [110, 111, 100, 101, 32] ++ (Syn.nmF i ++ (Syn.bodyF ++ (Syn.lastF i ++ Syn.endF))) := rfl
    rw [e5] at e3
    generalize Syn.textF i = t at *
    generalize Syn.lastF i = u at *
    rw [if_pos (by omega)]
    simp [t0, t3, t4, t5]
    rw [if_pos (by omega)]
    simp [t0, t3, t4, t5]
    rw [if_pos (by omega)]
    simp [t0, t3, t4, t5]
    rw [if_pos (by omega)]
    simp [t0, t3, t4, t5]
    rw [if_pos (by omega)]
    simp [t0, t3, t4, t5]
    rw [byteA (by omega), byteB (by omega)]
    exact ⟨m - 1, by omega, i + 1, by omega, by rw [e3]; rfl, by rw [e4]; rfl, wr⟩
  · obtain rfl : n = i := by omega
    simp [t0, t3, t4, t5]
    by_cases h32 : n ≤ 32
    · have g3 : ¬ (32 < (n : Int)) := by omega
      refine does_use (check_ok h1 h32 _) ?_
      rintro r H3 ⟨rfl, rfl⟩
      simp [t0, t3, t4, t5, g3]
      obtain ⟨i, rfl⟩ : ∃ i, n = i + 1 := ⟨n - 1, by omega⟩
      have hm := fun H => main_F (i := i) (by omega) H
      obtain ⟨c1, c2, c3, c4, c5, hmi, s1, s2, s3, s4, s5⟩ := mainF_is i
      rw [hmi] at hm
      generalize rowsF (i + 1) = cs at *
      refine aw_drawnA [(0, 0, []), (24, 0, [23]), (24, 12, [23])] mixedOrders (by kernel_rfl) ?_
      intro es hes
      simp [rdsA, heapF, heapA, t0, t3, t4, t5]
      refine ⟨_, _, hm _, Nat.le_refl _, ?_⟩
      have wr : IntKind.i64.wrap (i : Int) = (i : Int) := by rw [IntWalk.i64_in _ (by omega)]
      simp [rdsA, heapF, heapA, t0, t3, t4, t5, s1, s2, s3, s4, s5, wr]
      subst hes
      refine ⟨⟨by kernel_rfl, by kernel_rfl, by kernel_rfl⟩, ?_⟩
      rw [byteA (by omega), byteB (by omega)]
      rfl
    · have g3 : (32 < (n : Int)) := by omega
      refine does_use (check_many (by omega) hn _) ?_
      rintro r H3 ⟨rfl, rfl⟩
      simp [t0, t3, t4, t5, g3]
set_option maxRecDepth 100000 in
theorem many_any (H : AHeap) (a : AV) (s : Shp Tryz.prog 8 3 [a]) : Does Tryz.prog (Gof tab) 3 [a] H fun r _ => r = .bool true := by
  unfold Shp at s
  rw [Tryz.underlying3] at s
  obtain ⟨n, hn, _⟩ := s
  cases hn
  by_cases h : n < 1 ∨ 40 < n
  · exact many_out h H
  · obtain ⟨k, rfl⟩ : ∃ k : Nat, n = k := ⟨n.toNat, by omega⟩
    exact many_in (by omega) (by omega) H
end Go.Proofs.YthmnpnbcdoemfaaGreatDoor
