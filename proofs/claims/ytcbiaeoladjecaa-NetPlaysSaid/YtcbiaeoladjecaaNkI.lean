import Derived.Test.YtcbiaeoladjecaaNkH
namespace Go.Proofs
open Go Go.Abs
set_option linter.unusedSimpArgs false

/-- The i-th packet of one byte. -/
def mkb (i : Nat) : Pk := ⟨i, 0, some [UInt8.ofNat i]⟩
def sentb (i n : Nat) : List Pk := (List.range' i n).map mkb
@[simp] theorem sentb_length (i n : Nat) : (sentb i n).length = n := by simp [sentb]
theorem sentb_snoc (i n : Nat) : sentb i (n + 1) = sentb i n ++ [mkb (i + n)] := by simp [sentb, List.range'_concat]
theorem sentb_cons (i n : Nat) : sentb i (n + 1) = mkb i :: sentb (i + 1) n := by simp [sentb, List.range'_succ]
theorem wrap_byte (i : Nat) : IntKind.u8.wrap (i : Int) = ((UInt8.ofNat i).toNat : Int) := by
  have : IntKind.u8.wrap (i : Int) = (i : Int) % 256 := rfl
  rw [this]; simp
/-- The packets on their way when i were sent: the last 512. -/
def way (i : Nat) : List Pk := sentb (i - 512) (min i 512)
theorem sentb_eq {i j n m : Nat} (h1 : i = j) (h2 : n = m) : sentb i n = sentb j m := by rw [h1, h2]
theorem way_le {i : Nat} (h : i ≤ 512) : way i = sentb 0 i := sentb_eq (by omega) (by omega)
theorem way_ge {i : Nat} (h : 512 ≤ i) : way i = sentb (i - 512) 512 := sentb_eq rfl (by omega)
theorem way_small {i : Nat} (h : i < 512) : way (i + 1) = way i ++ [mkb i] := by
  rw [way_le (by omega), way_le (by omega), sentb_snoc]; simp
theorem way_full {i : Nat} (h : 512 ≤ i) : way i = mkb (i - 512) :: sentb (i - 512 + 1) 511 ∧ way (i + 1) = sentb (i - 512 + 1) 511 ++ [mkb i] := by
  refine ⟨by rw [way_ge h]; exact sentb_cons _ 511, ?_⟩
  rw [way_ge (by omega)]
  have e : i + 1 - 512 = i - 512 + 1 := by omega
  rw [e]
  have := sentb_snoc (i - 512 + 1) 511
  have e2 : i - 512 + 1 + 511 = i := by omega
  rw [e2] at this
  exact this
/-- What is left of them from the j-th on. -/
theorem way_from {n : Nat} : way n = sentb (n - 512) (n - (n - 512)) := sentb_eq rfl (by omega)
theorem sentb_take {j n : Nat} (h : j < n) : sentb j (n - j) = mkb j :: sentb (j + 1) (n - (j + 1)) := by
  have : n - j = (n - (j + 1)) + 1 := by omega
  rw [this, sentb_cons]
theorem most_run (H : AHeap) (n : Int) : Does Try.prog (fun _ => none) 5 [.int .i64 n] H fun r _ => r = .bool true := by
  refine does_f Try.call5 Try.func5 rfl (by simp [Try.f5]) ?_
  simp
  refine does_use (awake_any _) ?_
  rintro _ H0 ⟨rfl, rfl⟩
  by_cases c1 : n < 0
  · simp [c1]
  by_cases c2 : 700 < n
  · simp [c1, c2]
  simp [c1, c2]
  refine does_usew (new_spec _) ?_
  rintro _ _ ⟨rfl, rfl⟩ hw0 _
  obtain ⟨N, rfl⟩ : ∃ N : Nat, n = N := ⟨n.toNat, by omega⟩
  generalize ha : H0.next = a
  simp
  refine aws_loopw (fun m T' H' => ∃ i b : Nat, i + m = N ∧ T' 0 = .int .i64 N ∧ T' 3 = .ptr a 0 ∧ T' 4 = .int .i64 i ∧ NetAt H' a b (way i)) N
    ⟨0, a, by simp, by simp, by simp [ha], by simp, .nilsl, by simp [ha], .inl ⟨rfl, rfl, rfl⟩⟩ ?_
  rintro m T H ⟨i, b, hi, h0, h3, h4, hnet⟩ hw _
  have w1 : IntKind.i64.wrap ((i : Int) + 1) = i + 1 := IntWalk.i64_in _ (by omega)
  by_cases hlt : i < N
  · simp [h0, h3, h4, hlt]
    have hbx : Bts (H.push (.cells [.int .u8 (IntKind.u8.wrap (i : Int))])) (.sl H.next 0 1 1 1 false) (b8 [UInt8.ofNat i]) :=
      .inr (.inr ⟨H.next, 1, false, rfl, by simp [b8, wrap_byte]⟩)
    by_cases hs : i < 512
    · refine does_use (send_small _ a b (way i) i 0 _ [UInt8.ofNat i] (mkb i) (hnet.push hw _) (by simp [way]; omega) hbx (by simp) (by simp [Pk.cells, mkb, pkb, fzb])) ?_
      rintro _ H' ⟨rfl, b', h, _⟩
      simp [h0, h3, h4, w1]
      exact ⟨m - 1, by omega, i + 1, by omega, by simp, b', by rw [way_small hs]; exact h⟩
    · obtain ⟨e1, e2⟩ := way_full (i := i) (by omega)
      rw [e1] at hnet
      refine does_use (send_full _ a b _ _ i 0 _ [UInt8.ofNat i] (mkb i) (hnet.push hw _) (by simp) hbx (by simp) (by simp [Pk.cells, mkb, pkb, fzb]) ?_) ?_
      · rintro j l c op he
        simp only [AV.sl.injEq] at he
        obtain ⟨rfl, _⟩ := he
        obtain ⟨l, hl, g⟩ := hnet
        refine ⟨by have := next_lt hw hl; omega, ?_⟩
        rcases g with ⟨_, g, _⟩ | ⟨c, op, junk, _, _, hb, _⟩
        · simp at g
        · have := next_lt hw hb; omega
      rintro _ H' ⟨rfl, b', h, _⟩
      simp [h0, h3, h4, w1]
      exact ⟨m - 1, by omega, i + 1, by omega, by simp, b', by rw [e2]; exact h⟩
  · have : i = N := by omega
    subst this
    have w2 : IntKind.i64.wrap ((i : Int) - 512) = i - 512 := IntWalk.i64_in _ (by omega)
    rw [way_from] at hnet
    simp [h0, h3, h4, w2]
    have hj : ((i - 512 : Nat) : Int) = if (i : Int) - 512 < 0 then 0 else (i : Int) - 512 := by split <;> omega
    refine condV_dec (fun hc => ?_) (fun hc => ?_)
    all_goals
      simp [h0, h3, h4]
      refine aws_loopw (fun m T' H' => ∃ j b : Nat, j + m = i ∧ T' 0 = .int .i64 i ∧ T' 3 = .ptr a 0 ∧ T' 6 = .int .i64 j ∧ NetAt H' a b (sentb j (i - j))) (i - (i - 512))
        ⟨i - 512, b, by omega, by simp [h0], by simp [h3], by rw [hj]; simp [hc], hnet⟩ ?_
      rintro m T H ⟨j, b, hj, h0, h3, h6, hnet⟩ hw _
      have w1 : IntKind.i64.wrap ((j : Int) + 1) = j + 1 := IntWalk.i64_in _ (by omega)
      by_cases hlt : j < i
      · simp [h0, h3, h6, hlt]
        rw [sentb_take hlt] at hnet
        refine does_usew (deliver_some H a b [] (sentb (j + 1) (i - (j + 1))) (mkb j) 0 hnet rfl (by simp [mkb])) ?_
        rintro _ H' ⟨rfl, hn, _⟩ hw' _
        simp [Pk.cells, mkb, pkb, b8, wrap_byte, h0, h3, h6, w1]
        exact ⟨m - 1, by omega, j + 1, by omega, by simp, b, hn.push hw' _⟩
      · have : j = i := by omega
        subst this
        simp [h0, h3, h6]
        refine does_use (len_spec' _ a b _ hnet) ?_
        rintro _ _ ⟨rfl, rfl⟩
        simp
end Go.Proofs
