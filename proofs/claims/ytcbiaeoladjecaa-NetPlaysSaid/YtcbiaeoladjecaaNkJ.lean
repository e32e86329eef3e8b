import Derived.Test.YtcbiaeoladjecaaNkI
namespace Go.Proofs
open Go Go.Abs
set_option linter.unusedSimpArgs false

/-- A list of ints that came in. -/
def IntsArg (x : AV) (xs : List Int) : Prop := (x = .nilsl ∧ xs = []) ∨ x = .vsl (xs.map (.int .i64)) xs.length

/-- To whom the j-th goes. -/
def to3 (x : Int) : Int := IntKind.i64.wrap ((BitVec.ofInt 64 x &&& BitVec.ofInt 64 3).toNat : Nat)
theorem to3_range (x : Int) : 0 ≤ to3 x ∧ to3 x < 4 := by
  have h : (BitVec.ofInt 64 x &&& BitVec.ofInt 64 3).toNat ≤ 3 := by
    rw [BitVec.toNat_and]
    exact Nat.le_trans Nat.and_le_right (by decide)
  unfold to3
  rw [IntWalk.i64_in _ (by omega)]
  omega

section
variable (t : Nat → Int)
def pkt (i : Nat) : Pk := ⟨i, t i, some [UInt8.ofNat i]⟩
/-- Those from i on of n that are chosen. -/
def some_ (sel : Nat → Bool) (i n : Nat) : List Pk := ((List.range' i n).filter sel).map (pkt t)
theorem some_split {sel : Nat → Bool} {n i : Nat} (h : i < n) : some_ t sel 0 n = some_ t sel 0 i ++ ((if sel i then [pkt t i] else []) ++ some_ t sel (i + 1) (n - i - 1)) := by
  have h1 : List.range' 0 n = List.range' 0 i ++ i :: List.range' (i + 1) (n - i - 1) := by
    have h1 : List.range' 0 n = List.range' 0 i ++ List.range' (0 + 1 * i) (n - i - 1 + 1) := by
      rw [List.range'_append]; congr 1; omega
    rw [h1]
    simp [List.range'_succ]
  unfold some_
  rw [h1, List.filter_append, List.filter_cons, List.map_append]
  split <;> simp
theorem some_congr {sel sel' : Nat → Bool} {i n : Nat} (h : ∀ j, i ≤ j → j < i + n → sel j = sel' j) : some_ t sel i n = some_ t sel' i n := by
  unfold some_
  congr 1
  apply List.filter_congr
  intro j hj
  rw [List.mem_range'_1] at hj
  exact h j hj.1 hj.2
theorem some_mem {sel : Nat → Bool} {i n : Nat} {p : Pk} (h : p ∈ some_ t sel i n) : ∃ j, i ≤ j ∧ j < i + n ∧ sel j = true ∧ p = pkt t j := by
  unfold some_ at h
  rw [List.mem_map] at h
  obtain ⟨j, hj, rfl⟩ := h
  rw [List.mem_filter, List.mem_range'_1] at hj
  exact ⟨j, hj.1.1, hj.1.2, hj.2, rfl⟩
/-- What is on its way when 'to' has been taken up to the i-th. -/
def rem (to : Int) (i : Nat) (j : Nat) : Bool := decide (to < t j ∨ (t j = to ∧ i ≤ j))
theorem rem_next {to : Int} {n : Nat} : some_ t (rem t to n) 0 n = some_ t (rem t (to + 1) 0) 0 n :=
  some_congr t fun j h1 h2 => by
    unfold rem
    simp only [decide_eq_decide]
    omega
end

theorem some_all_length (t : Nat → Int) (i n : Nat) : (some_ t (fun _ => true) i n).length = n := by
  unfold some_
  rw [List.filter_eq_self.2 (by simp)]; simp

theorem sent_all (t : Nat → Int) (n : Nat) (h : ∀ j, 0 ≤ t j) : some_ t (fun _ => true) 0 n = some_ t (rem t 0 0) 0 n :=
  some_congr t fun j _ _ => by
    unfold rem
    have := h j
    have : (0 : Int) < t j ∨ t j = 0 := by omega
    simp [this]
theorem some_snoc (t : Nat → Int) (n : Nat) : some_ t (fun _ => true) 0 (n + 1) = some_ t (fun _ => true) 0 n ++ [pkt t n] := by
  unfold some_
  simp [List.range'_concat]

theorem drop_ints (xs : List Int) (j : Nat) (h : j < xs.length) : (xs.map (AV.int .i64)).drop j = .int .i64 (xs.getD j 0) :: (xs.map (AV.int .i64)).drop (j + 1) := by
  rw [List.drop_eq_getElem_cons (by simpa using h)]
  simp [h]

theorem rem_skip {t : Nat → Int} {to : Int} {n i : Nat} (hi : i < n) (h : t i ≠ to) : some_ t (rem t to i) 0 n = some_ t (rem t to (i + 1)) 0 n :=
  some_congr t fun j _ _ => by
    unfold rem
    simp only [decide_eq_decide]
    by_cases e : j = i
    · subst e; simp [h]
    · omega
theorem rem_take {t : Nat → Int} {to : Int} {n i : Nat} (hi : i < n) (h : t i = to) : ∃ A B, some_ t (rem t to i) 0 n = A ++ pkt t i :: B ∧ some_ t (rem t to (i + 1)) 0 n = A ++ B ∧ ∀ q ∈ A, q.t ≠ to := by
  refine ⟨some_ t (rem t to i) 0 i, some_ t (rem t to i) (i + 1) (n - i - 1), ?_, ?_, fun q hq => ?_⟩
  · rw [some_split t hi]
    have : rem t to i i = true := by simp [rem, h]
    rw [this]; rfl
  · rw [some_split t hi]
    have : rem t to (i + 1) i = false := by simp [rem, h]
    rw [this]
    have e1 : some_ t (rem t to (i + 1)) 0 i = some_ t (rem t to i) 0 i := some_congr t fun j _ h2 => by
      unfold rem; simp only [decide_eq_decide]; omega
    have e2 : some_ t (rem t to (i + 1)) (i + 1) (n - i - 1) = some_ t (rem t to i) (i + 1) (n - i - 1) := some_congr t fun j h1 _ => by
      unfold rem; simp only [decide_eq_decide]; omega
    rw [e1, e2]; simp
  · obtain ⟨j, _, h2, h3, rfl⟩ := some_mem t hq
    simp only [rem, decide_eq_true_eq] at h3
    show t j ≠ to
    omega
theorem rem_end {t : Nat → Int} {to : Int} {n : Nat} : ∀ p ∈ some_ t (rem t to n) 0 n, p.t ≠ to := fun p hp => by
  obtain ⟨j, _, h2, h3, rfl⟩ := some_mem t hp
  simp only [rem, decide_eq_true_eq] at h3
  show t j ≠ to
  omega
theorem rem_none {t : Nat → Int} (h : ∀ j, t j < 4) {n : Nat} : some_ t (rem t 4 0) 0 n = [] := by
  rw [List.eq_nil_iff_forall_not_mem]
  intro p hp
  obtain ⟨j, _, h2, h3, rfl⟩ := some_mem t hp
  simp only [rem, decide_eq_true_eq] at h3
  have := h j
  omega

theorem first_vsl (H : AHeap) (xs : List Int) : Does Try.prog (fun _ => none) 6 [.vsl (xs.map (.int .i64)) xs.length] H fun r _ => r = .bool true := by
  refine does_f Try.call6 Try.func6 rfl (by simp [Try.f6]) ?_
  simp
  refine does_use (awake_any _) ?_
  rintro _ H0 ⟨rfl, rfl⟩
  simp
  refine condV_dec (fun c1 => ?_) (fun c1 => ?_)
  · simp
  have c1 : xs.length ≤ 100 := by omega
  simp
  refine does_usew (new_spec _) ?_
  rintro _ _ ⟨rfl, rfl⟩ hw0 _
  generalize ha : H0.next = a
  obtain ⟨t, ht⟩ : ∃ t : Nat → Int, t = fun j => to3 (xs.getD j 0) := ⟨_, rfl⟩
  have t0 : ∀ j, 0 ≤ t j := fun j => by rw [ht]; exact (to3_range _).1
  have t4 : ∀ j, t j < 4 := fun j => by rw [ht]; exact (to3_range _).2
  generalize hN : xs.length = N
  generalize hcs : xs.map (AV.int .i64) = cs
  have hd : ∀ j, j < N → cs.drop j = .int .i64 (xs.getD j 0) :: cs.drop (j + 1) := fun j hj => by rw [← hcs]; exact drop_ints xs j (by omega)
  simp
  refine aws_loopw (fun m T' H' => ∃ i b : Nat, i + m = N ∧ T' 0 = .vsl cs N ∧ T' 3 = .ptr a 0 ∧ T' 4 = .int .i64 i ∧ NetAt H' a b (some_ t (fun _ => true) 0 i)) N
    ⟨0, a, by simp, by simp, by simp [ha], by simp, .nilsl, by simp [ha], .inl ⟨rfl, rfl, rfl⟩⟩ ?_
  rintro m T H ⟨i, b, hi, h0, h3, h4, hnet⟩ hw _
  have w1 : IntKind.i64.wrap ((i : Int) + 1) = i + 1 := IntWalk.i64_in _ (by omega)
  by_cases hlt : i < N
  · have hdi := hd i hlt
    simp [h0, h3, h4, hlt, hdi]
    have hbx : Bts (H.push (.cells [.int .u8 (IntKind.u8.wrap (i : Int))])) (.sl H.next 0 1 1 1 false) (b8 [UInt8.ofNat i]) :=
      .inr (.inr ⟨H.next, 1, false, rfl, by simp [b8, wrap_byte]⟩)
    have htt : to3 (xs.getD i 0) = t i := by rw [ht]
    refine does_use (send_small _ a b _ i (to3 (xs.getD i 0)) _ [UInt8.ofNat i] (pkt t i) (hnet.push hw _) (by rw [some_all_length]; omega) hbx (by simp) (by rw [htt]; simp [Pk.cells, pkt, pkb, fzb])) ?_
    rintro _ H' ⟨rfl, b', h, _⟩
    simp [h0, h3, h4, w1]
    exact ⟨m - 1, by omega, i + 1, by omega, by simp, b', by rw [some_snoc]; exact h⟩
  · have : i = N := by omega
    subst this
    rw [sent_all t i t0] at hnet
    simp [h0, h3, h4]
    refine aws_loopw (fun m T' H' => ∃ q b : Nat, q + m = 4 ∧ T' 0 = .vsl cs i ∧ T' 3 = .ptr a 0 ∧ T' 5 = .int .i64 q ∧ NetAt H' a b (some_ t (rem t q 0) 0 i)) 4
      ⟨0, b, by omega, by simp [h0], by simp [h3], by simp, by simpa using hnet⟩ ?_
    clear hnet h0 h3 h4
    rintro m T H ⟨q, b, hq, h0, h3, h5, hnet⟩ hw _
    have w2 : IntKind.i64.wrap ((q : Int) + 1) = q + 1 := IntWalk.i64_in _ (by omega)
    by_cases hq4 : q < 4
    · have hq4' : (q : Int) < 4 := by omega
      simp [h0, h3, h5, hq4']
      refine aws_loopw (fun m' T' H' => ∃ j b : Nat, j + m' = i ∧ T' 0 = .vsl cs i ∧ T' 3 = .ptr a 0 ∧ T' 5 = .int .i64 q ∧ T' 6 = .int .i64 j ∧ NetAt H' a b (some_ t (rem t q j) 0 i)) i
        ⟨0, b, by omega, by simp [h0], by simp [h3], by simp [h5], by simp, hnet⟩ ?_
      clear hnet h0 h3 h5
      rintro m' T H ⟨j, b, hj, h0, h3, h5, h6, hnet⟩ hw _
      have w3 : IntKind.i64.wrap ((j : Int) + 1) = j + 1 := IntWalk.i64_in _ (by omega)
      by_cases hlt : j < i
      · have hdj := hd j hlt
        have htt : IntKind.i64.wrap (((xs[j]?.getD 0 % 2 ^ IntKind.i64.bits).toNat &&& 3 % 2 ^ IntKind.i64.bits : Nat) : Int) = t j := by rw [ht]; simp [to3, IntKind.bits]
        simp [h0, h3, h5, h6, hlt, hdj]
        rw [htt]
        by_cases he : t j = q
        · have hb : (t j != (q : Int)) = false := by simp [he]
          rw [hb]
          obtain ⟨A, B, e1, e2, e3⟩ := rem_take (n := i) hlt he
          rw [e1] at hnet
          simp [h0, h3, h5, h6]
          refine does_usew (oldest_some H a b A B (pkt t j) q hnet e3 (by show t j = q; exact he) (by simp [pkt])) ?_
          rintro _ H' ⟨rfl, hn, _⟩ hw' _
          simp [Pk.cells, pkt, pkb, b8, wrap_byte, h0, h3, h5, h6, w3, he]
          exact ⟨m' - 1, by omega, j + 1, by omega, by simp, b, by rw [e2]; exact hn.push hw' _⟩
        · have hb : (t j != (q : Int)) = true := by simp [he]
          rw [hb]
          simp [h0, h3, h5, h6, w3]
          exact ⟨m' - 1, by omega, j + 1, by omega, by simp, b, by rw [← rem_skip hlt he]; exact hnet⟩
      · have : j = i := by omega
        subst this
        simp [h0, h3, h5, h6]
        refine does_usew (oldest_none H a b _ q hnet rem_end) ?_
        rintro _ _ ⟨rfl, rfl⟩ _ _
        simp [h0, h3, h5, h6, w2]
        exact ⟨m - 1, by omega, q + 1, by omega, by simp, b, by rw [show ((q + 1 : Nat) : Int) = (q : Int) + 1 by omega, ← rem_next]; exact hnet.push hw _⟩
    · have : q = 4 := by omega
      subst this
      have e4 : some_ t (rem t ((4 : Nat) : Int) 0) 0 i = [] := rem_none t4
      rw [e4] at hnet
      simp [h0, h3, h5]
      refine does_use (len_spec' _ a b _ hnet) ?_
      rintro _ _ ⟨rfl, rfl⟩
      simp

theorem first_nil (H : AHeap) : Does Try.prog (fun _ => none) 6 [.nilsl] H fun r _ => r = .bool true := by
  refine does_f Try.call6 Try.func6 rfl (by simp [Try.f6]) ?_
  simp
  refine does_use (awake_any _) ?_
  rintro _ H0 ⟨rfl, rfl⟩
  simp
  refine does_usew (new_spec _) ?_
  rintro _ _ ⟨rfl, rfl⟩ hw0 _
  generalize ha : H0.next = a
  simp
  refine aws_loopw (fun m T' H' => T' 0 = .nilsl ∧ T' 3 = .ptr a 0 ∧ T' 4 = .int .i64 0 ∧ NetAt H' a a []) 0
    ⟨by simp, by simp [ha], by simp, .nilsl, by simp [ha], .inl ⟨rfl, rfl, rfl⟩⟩ ?_
  rintro m T H ⟨h0, h3, h4, hnet⟩ hw _
  simp [h0, h3, h4]
  refine aws_loopw (fun m T' H' => ∃ q : Nat, q + m = 4 ∧ T' 0 = .nilsl ∧ T' 3 = .ptr a 0 ∧ T' 5 = .int .i64 q ∧ NetAt H' a a []) 4
    ⟨0, by omega, by simp [h0], by simp [h3], by simp, hnet⟩ ?_
  clear hnet h0 h3 h4
  rintro m T H ⟨q, hq, h0, h3, h5, hnet⟩ hw _
  have w2 : IntKind.i64.wrap ((q : Int) + 1) = q + 1 := IntWalk.i64_in _ (by omega)
  by_cases hq4 : q < 4
  · have hq4' : (q : Int) < 4 := by omega
    simp [h0, h3, h5, hq4']
    refine aws_loopw (fun _ T' H' => T' 0 = .nilsl ∧ T' 3 = .ptr a 0 ∧ T' 5 = .int .i64 q ∧ T' 6 = .int .i64 0 ∧ NetAt H' a a []) 0
      ⟨by simp [h0], by simp [h3], by simp [h5], by simp, hnet⟩ ?_
    clear hnet h0 h3 h5
    rintro m' T H ⟨h0, h3, h5, h6, hnet⟩ hw _
    simp [h0, h3, h5, h6]
    refine does_usew (oldest_none H a a [] q hnet (by simp)) ?_
    rintro _ _ ⟨rfl, rfl⟩ _ _
    simp [h0, h3, h5, h6, w2]
    exact ⟨m - 1, by omega, q + 1, by omega, by simp, hnet.push hw _⟩
  · have : q = 4 := by omega
    subst this
    simp [h0, h3, h5]
    refine does_use (len_spec' _ a a _ hnet) ?_
    rintro _ _ ⟨rfl, rfl⟩
    simp
end Go.Proofs
