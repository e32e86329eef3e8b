import Derived.Test.YtcbiaeoladjecaaNkG
import Derived.Test.YtcbiaeoladjecaaFxI
namespace Go.Proofs
open Go Go.Abs
set_option linter.unusedSimpArgs false

theorem Try.plain : plainFn Try.prog = true := by kernel_rfl
theorem awake_run : fcall noOv Try.prog (fun _ => none) 100000 50 9 [] FH.empty yesK = true := by kernel_rfl
theorem awake_any (H : AHeap) : Does Try.prog (fun _ => none) 9 [] H fun r H' => r = .bool true ∧ H' = H := by
  obtain ⟨v, H', hd, _, hk⟩ := fcall_sound Try.mixed Try.plain (noOv_good _ _) 50 9 [] FH.empty yesK awake_run
  rw [FH.abs_empty] at hd
  have hv : v = .bool true := by
    rcases AV.onBool_inv (show v.onBool false (fun b => b) = true from hk) with ⟨b, hb, h⟩ | ⟨h, _⟩
    · rw [hb, h]
    · simp at h
  exact (hd.mono fun r h hr => by rw [hr.1, hv]).closed H


/-- The i-th packet. -/
def mkp (i : Nat) : Pk := ⟨i, 0, none⟩
def sent (i n : Nat) : List Pk := (List.range' i n).map mkp
@[simp] theorem sent_length (i n : Nat) : (sent i n).length = n := by simp [sent]
theorem sent_snoc (n : Nat) : sent 0 (n + 1) = sent 0 n ++ [mkp n] := by
  simp [sent, List.range'_concat]
theorem sent_split (n k : Nat) (h : k < n) : sent 0 n = sent 0 k ++ mkp k :: sent (k + 1) (n - k - 1) := by
  have e : n = k + (n - k - 1 + 1) := by omega
  have h1 : List.range' 0 n = List.range' 0 k ++ List.range' (0 + 1 * k) (n - k - 1 + 1) := by
    rw [List.range'_append]; congr 1
  unfold sent
  rw [h1, List.map_append]
  simp [List.range'_succ]
/-- What is left. -/
def left (n k l i : Nat) : List Pk := ((List.range' i (n - i)).filter fun j => decide (j ≠ l)).map mkp ++ [mkp k]
theorem left_skip {n k l : Nat} (h : l < n) : left n k l l = left n k l (l + 1) := by
  unfold left
  have : n - l = (n - (l + 1)) + 1 := by omega
  rw [this, List.range'_succ]
  simp
theorem left_take {n k l i : Nat} (h : i < n) (hne : i ≠ l) : left n k l i = mkp i :: left n k l (i + 1) := by
  unfold left
  have : n - i = (n - (i + 1)) + 1 := by omega
  rw [this, List.range'_succ]
  simp [hne]
theorem left_end (n k l : Nat) : left n k l n = [mkp k] := by simp [left]
theorem left_all {n k l : Nat} (h : l < n) : left n k l 0 = sent 0 l ++ (sent (l + 1) (n - l - 1) ++ [mkp k]) := by
  have h1 : List.range' 0 n = List.range' 0 l ++ l :: List.range' (l + 1) (n - l - 1) := by
    have h1 : List.range' 0 n = List.range' 0 l ++ List.range' (0 + 1 * l) (n - l - 1 + 1) := by
      rw [List.range'_append]; congr 1; omega
    rw [h1]
    simp [List.range'_succ]
  have f1 : (List.range' 0 l).filter (fun j => decide (j ≠ l)) = List.range' 0 l := by
    rw [List.filter_eq_self]; intro j hj; rw [List.mem_range'_1] at hj; simp; omega
  have f2 : (List.range' (l + 1) (n - l - 1)).filter (fun j => decide (j ≠ l)) = List.range' (l + 1) (n - l - 1) := by
    rw [List.filter_eq_self]; intro j hj; rw [List.mem_range'_1] at hj; simp; omega
  unfold left sent
  rw [Nat.sub_zero, h1, List.filter_append, List.filter_cons, f1, f2]
  simp

theorem doubles_run (H : AHeap) (n k l : Int) : Does Try.prog (fun _ => none) 8 [.int .i64 n, .int .i64 k, .int .i64 l] H fun r _ => r = .bool true := by
  refine does_f Try.call8 Try.func8 rfl (by simp [Try.f8]) ?_
  simp
  refine does_use (awake_any _) ?_
  rintro _ H0 ⟨rfl, rfl⟩
  by_cases c : n < 1 ∨ 60 < n ∨ k < 0 ∨ n ≤ k ∨ l < 0 ∨ n ≤ l
  · by_cases c1 : n < 1
    · simp [c1]
    by_cases c2 : 60 < n
    · simp [c1, c2]
    by_cases c3 : k < 0
    · simp [c1, c2, c3]
    by_cases c4 : n ≤ k
    · simp [c1, c2, c3, c4]
    by_cases c5 : l < 0
    · simp [c1, c2, c3, c4, c5]
    have c6 : n ≤ l := by omega
    simp [c1, c2, c3, c4, c5, c6]
  · have c1 : ¬ n < 1 := by omega
    have c2 : ¬ 60 < n := by omega
    have c3 : ¬ k < 0 := by omega
    have c4 : ¬ n ≤ k := by omega
    have c5 : ¬ l < 0 := by omega
    have c6 : ¬ n ≤ l := by omega
    simp [c1, c2, c3, c4, c5, c6]
    refine does_usew (new_spec _) ?_
    rintro _ _ ⟨rfl, rfl⟩ hw0 _
    clear c
    obtain ⟨N, rfl⟩ : ∃ N : Nat, n = N := ⟨n.toNat, by omega⟩
    obtain ⟨K, rfl⟩ : ∃ N : Nat, k = N := ⟨k.toNat, by omega⟩
    obtain ⟨L, rfl⟩ : ∃ N : Nat, l = N := ⟨l.toNat, by omega⟩
    generalize ha : H0.next = a
    simp
    refine aws_loopw (fun m T' H' => ∃ i b : Nat, i + m = N ∧ T' 0 = .int .i64 N ∧ T' 1 = .int .i64 K ∧ T' 2 = .int .i64 L ∧ T' 7 = .ptr a 0 ∧ T' 8 = .int .i64 i ∧ NetAt H' a b (sent 0 i)) N
      ⟨0, a, by simp, by simp, by simp, by simp, by simp [ha], by simp, .nilsl, by simp [ha], .inl ⟨rfl, rfl, rfl⟩⟩ ?_
    rintro m T H ⟨i, b, hi, h0, h1, h2, h7, h8, hnet⟩ hw _
    by_cases hlt : i < N
    · simp [h0, h1, h2, h7, h8, hlt]
      refine does_use (send_small H a b (sent 0 i) i 0 .nilsl [] (mkp i) hnet (by simp; omega) (.inl ⟨rfl, rfl⟩) (by simp) rfl) ?_
      rintro _ H' ⟨rfl, b', h, _⟩
      have w1 : IntKind.i64.wrap ((i : Int) + 1) = i + 1 := IntWalk.i64_in _ (by omega)
      simp [h0, h1, h2, h7, h8, w1]
      exact ⟨m - 1, by omega, i + 1, by omega, by simp, b', by rw [sent_snoc]; exact h⟩
    · have : i = N := by omega
      subst this
      have hK : K < i := by omega
      have hL : L < i := by omega
      simp [h0, h1, h2, h7, h8]
      refine does_use (double_some H a b (sent 0 K) (sent (K + 1) (i - K - 1)) (mkp K) K (by rw [← sent_split i K hK]; exact hnet) (by simp) (by rw [← sent_split i K hK]; simp; omega) (by simp [mkp])) ?_
      rintro _ H1 ⟨rfl, b1, hn1, _⟩
      rw [← sent_split i K hK] at hn1
      simp [h0, h1, h2, h7, h8]
      refine does_use (lose_some H1 a b1 (sent 0 L) (sent (L + 1) (i - L - 1) ++ [mkp K]) (mkp L) L ?_ (by simp) (by simp [mkp])) ?_
      · have := hn1
        rw [sent_split i L hL] at this
        simpa using this
      rintro _ H2 ⟨rfl, hn2, _⟩
      rw [← left_all hL] at hn2
      simp [h0, h1, h2, h7, h8]
      refine does_use (len_spec' H2 a b1 _ hn2) ?_
      rintro _ _ ⟨rfl, rfl⟩
      have hll : (left i K L 0).length = i := by rw [left_all hL]; simp; omega
      rw [hll]
      simp [h0, h1, h2, h7, h8]
      refine aws_loopw (fun m T' H' => ∃ j b : Nat, j + m = i ∧ T' 0 = .int .i64 i ∧ T' 1 = .int .i64 K ∧ T' 2 = .int .i64 L ∧ T' 7 = .ptr a 0 ∧ T' 9 = .int .i64 j ∧ NetAt H' a b (left i K L j)) i
        ⟨0, b1, by simp, by simp [h0], by simp [h1], by simp [h2], by simp [h7], by simp, hn2⟩ ?_
      clear hn2 hn1 hnet h0 h1 h2 h7 h8
      rintro m T H ⟨j, b, hj, h0, h1, h2, h7, h9, hnet⟩ hw _
      by_cases hlt : j < i
      · have w1 : IntKind.i64.wrap ((j : Int) + 1) = j + 1 := IntWalk.i64_in _ (by omega)
        by_cases he : j = L
        · subst he
          simp [h0, h1, h2, h7, h9, hlt, w1]
          exact ⟨m - 1, by omega, j + 1, by omega, by simp, b, by rw [← left_skip hL]; exact hnet⟩
        · have hne : ¬ (j : Int) = L := by omega
          simp [h0, h1, h2, h7, h9, hlt, w1, hne]
          rw [left_take hlt he] at hnet
          refine does_usew (deliver_some H a b [] (left i K L (j + 1)) (mkp j) 0 hnet rfl (by simp [mkp])) ?_
          rintro _ H' ⟨rfl, hn, _⟩ hw' _
          simp [Pk.cells, mkp, pkb, h0, h1, h2, h7, h9, w1]
          exact ⟨m - 1, by omega, j + 1, by omega, by simp, b, hn.push hw' _⟩
      · have : j = i := by omega
        subst this
        rw [left_end] at hnet
        simp [h0, h1, h2, h7, h9]
        refine does_usew (deliver_some H a b [] [] (mkp K) 0 hnet rfl (by simp [mkp])) ?_
        rintro _ H' ⟨rfl, hn, _⟩ hw' _
        simp [Pk.cells, mkp, pkb, h0, h1, h2, h7, h9]
        refine does_use (len_spec' _ a b _ (hn.push hw' _)) ?_
        rintro _ _ ⟨rfl, rfl⟩
        simp
end Go.Proofs
