import Derived.Test.YtcbiaeoladjecaaNkD
namespace Go.Proofs
open Go Go.Abs
set_option linter.unusedSimpArgs false
variable {G : Nat → Option AV}

theorem send_full (H : AHeap) (a b : Nat) (q : Pk) (ps : List Pk) (f t : Int) (x : AV) (bs : List UInt8) (p : Pk) (h : NetAt H a b (q :: ps)) (hn : ps.length = 511) (hx : Bts H x (b8 bs)) (hlen : bs.length ≤ 1000000) (hp : [.int .i64 f, .int .i64 t, fzb x (b8 bs)] = p.cells) (hxx : ∀ i l c op, x = .sl i 0 1 l c op → i ≠ a ∧ i ≠ b) :
    Does Try.prog G 14 [.ptr a 0, .agg [.int .i64 f, .int .i64 t, x]] H fun r H' => r = .int .i64 0 ∧ ∃ b', NetAt H' a b' (ps ++ [p]) ∧ Kept H H' a b b' := by
  refine Does.wf Try.call14 fun hw _ => ?_
  have olda : ∀ j x, H.get j = some x → j < H.next := fun j x hj => next_lt hw hj
  have hsx : x.scalar = true := by rcases hx with ⟨rfl, _⟩ | rfl | ⟨b, c, op, rfl, _⟩ <;> rfl
  refine does_f Try.call14 Try.func14 rfl (by simp [Try.f14]) ?_
  obtain ⟨pf, pt, pb⟩ := p
  simp only [Pk.cells, List.cons.injEq, AV.int.injEq, and_true, true_and] at hp
  obtain ⟨rfl, rfl, hp⟩ := hp
  obtain ⟨l, hl, ⟨rfl, h, _⟩ | ⟨c, op, junk, rfl, hne, hb, hc, hc1⟩⟩ := h
  · simp at h
  have oa := olda _ _ hl
  have ob := olda _ _ hb
  have a1 : a ≠ H.next := by omega
  have b1 : b ≠ H.next := by omega
  have hn1 : (ps.length : Int) + 1 = 512 := by omega
  simp at hc
  simp [hsx, hl, hb, a1, b1, hn1]
  refine does_use (delete_spec _ b c 0 ps.length (ps.length + 1) op [] q.cells (flat ps) junk (by simp [hb, b1]) (by simp) (by simp) (by simp) (flat_scalar _) (by omega) hc1 (by omega)) ?_
  rintro _ _ ⟨rfl, rfl⟩
  simp [hsx, hl, hb, a1, b1, hn1, hne, Ne.symm hne]
  refine aw_drawn [(4, 0), (4, 7), (5, 0)] ?_ ?_ ?_
  · exact Try.mixed
  · kernel_rfl
  intro es hes
  simp [hl, hb, a1, b1, hsx, hne, Ne.symm hne, Ne.symm a1, Ne.symm b1]
  refine ⟨_, _, copied_frozen _ f t x (b8 bs) ?_ (b8_scalar _) (by simpa using hlen), by simp, ?_⟩
  · rcases hx with ⟨rfl, h⟩ | rfl | ⟨i, c', op', rfl, hi⟩
    · exact .inl ⟨rfl, h⟩
    · exact .inr (.inl rfl)
    · obtain ⟨i1, i2⟩ := hxx _ _ _ _ rfl
      have i3 : i ≠ H.next := by have := olda _ _ hi; omega
      exact .inr (.inr ⟨i, c', op', rfl, by simp [i1, i2, i3, hi]⟩)
  have a2 : a ≠ H.next + 1 := by omega
  have b2 : b ≠ H.next + 1 := by omega
  have a3 : a ≠ H.next + 1 + 1 := by omega
  have b3 : b ≠ H.next + 1 + 1 := by omega
  have g : ps.length + 1 ≤ c := by omega
  have g2 : (ps.length + 1) * 3 ≤ ps.length * 3 + (junk.length + 1 + 1 + 1) := by omega
  rw [hp]
  have d1 : ∀ X, List.drop (ps.length * 3 + 3) (flat ps ++ X) = X.drop 3 := by
    intro X; rw [← List.drop_drop, List.drop_left' (by simp)]
  simp [rds, hl, hb, hsx, heapF, a1, a2, a3, b1, b2, b3, g, g2, d1, hne, Ne.symm hne, Ne.symm a1, Ne.symm b1]
  refine ⟨?_, ?_⟩
  · subst hes
    constructor
    · kernel_rfl
    · kernel_rfl
  · refine ⟨b, ⟨_, by simp; rfl, .inr ⟨c, op, junk, by simp, hne, by simp [hne, Pk.cells], by simp; omega, hc1⟩⟩, by simp; omega, .inl rfl, fun j hj h1 h2 => ?_⟩
    have n1 : j ≠ H.next := by omega
    have n2 : j ≠ H.next + 1 := by omega
    simp [h1, h2, n1, n2]
theorem deliver_none (H : AHeap) (a b : Nat) (ps : List Pk) (k : Int) (h : NetAt H a b ps) (hk : k < 0 ∨ ps.length ≤ k) : Does Try.prog G 11 [.ptr a 0, .int .i64 k] H fun r H' => r = .tuple [.agg [.int .i64 0, .int .i64 0, .nilsl], .bool false] ∧ H' = H := by
  refine Does.forgot (R := fun r H' => r = .tuple [.agg [.int .i64 0, .int .i64 0, .nilsl], .bool false] ∧ ∀ j x, H.get j = some x → H'.get j = some x) ?_ ?_
  · refine Does.wf Try.call11 fun hw _ => ?_
    have old : ∀ j x, H.get j = some x → j ≠ H.next ∧ j ≠ H.next + 1 := fun j x hj => by have := next_lt hw hj; omega
    refine does_f Try.call11 Try.func11 rfl (by simp [Try.f11]) ?_
    simp
    refine does_use (see_none _ a b ps k ?_ hk) ?_
    · obtain ⟨l, hl, h⟩ := h
      have := old _ _ hl
      refine ⟨l, by simp [hl, this], ?_⟩
      rcases h with h | ⟨c, op, junk, rfl, hne, hb, hc⟩
      · exact .inl h
      · have := old _ _ hb
        exact .inr ⟨c, op, junk, rfl, hne, by simp [hb, this], hc⟩
    rintro _ _ ⟨rfl, rfl⟩
    simp
    intro j x hj
    simp [hj, old j x hj]
  · rintro hw ha r H1 ⟨rfl, h⟩
    exact ⟨h, by simp [AV.idLt, AV.allLt], rfl, rfl⟩

theorem deliver_some (H : AHeap) (a b : Nat) (A B : List Pk) (p : Pk) (k : Nat) (h : NetAt H a b (A ++ p :: B)) (hk : k = A.length) (hl : (p.b.getD []).length ≤ 1000000) :
    Does Try.prog G 11 [.ptr a 0, .int .i64 k] H fun r H' => r = .tuple [.agg p.cells, .bool true] ∧ NetAt H' a b (A ++ B) ∧ Kept H H' a b b := by
  refine Does.wf Try.call11 fun hw _ => ?_
  have olda : ∀ j x, H.get j = some x → j < H.next := fun j x hj => next_lt hw hj
  obtain ⟨l, hl, ⟨rfl, h, _⟩ | ⟨c, op, junk, rfl, hne, hb, hc, hc1⟩⟩ := h
  · simp at h
  have oa := olda _ _ hl
  have ob := olda _ _ hb
  have a1 : a ≠ H.next := by omega
  have b1 : b ≠ H.next := by omega
  have a2 : a ≠ H.next + 1 := by omega
  have b2 : b ≠ H.next + 1 := by omega
  refine does_f Try.call11 Try.func11 rfl (by simp [Try.f11]) ?_
  simp
  refine does_use (see_some _ a b A B p k ⟨.sl b 0 3 (A ++ p :: B).length c op, by simpa [a1] using hl, .inr ⟨c, op, junk, rfl, hne, by simp [b1, hb], hc, hc1⟩⟩ hk (by assumption)) ?_
  rintro _ _ ⟨rfl, rfl⟩
  have w1 : IntKind.i64.wrap ((k : Int) + 1) = k + 1 := IntWalk.i64_in _ (by simp at hc; omega)
  simp [Pk.cells, hl, hb, a1, a2, b1, b2, w1]
  simp at hc
  refine does_use (delete_spec _ b c k B.length (A.length + (B.length + 1)) op (flat A) p.cells (flat B) junk ?_ (by simp [hk]) (by simp) (by simp) (flat_scalar _) (by omega) hc1 (by omega)) ?_
  · simp [hb, b1, b2]
  rintro _ _ ⟨rfl, rfl⟩
  simp [hl, hb, a1, a2, b1, b2, hne, Ne.symm hne, Ne.symm a1, Ne.symm a2, Ne.symm b1, Ne.symm b2]
  refine ⟨rfl, ⟨.sl b 0 3 (A ++ B).length c op, by simp [a1, hk], .inr ⟨c, op, _, rfl, hne, by simp [hne, b1, List.append_assoc]; rfl, by simp; omega, hc1⟩⟩, by simp; omega, .inl rfl, fun j hj h1 h2 => ?_⟩
  have n1 : j ≠ H.next := by omega
  have n2 : j ≠ H.next + 1 := by omega
  simp [h1, h2, n1, n2]
theorem NetAt.ext {H H' : AHeap} {a b : Nat} {ps : List Pk} (h : NetAt H a b ps) (hs : ∀ j x, H.get j = some x → H'.get j = some x) : NetAt H' a b ps := by
  obtain ⟨l, hl, h⟩ := h
  refine ⟨l, hs _ _ hl, ?_⟩
  rcases h with h | ⟨c, op, junk, rfl, hne, hb, hc⟩
  · exact .inl h
  · exact .inr ⟨c, op, junk, rfl, hne, hs _ _ hb, hc⟩

theorem NetAt.push {H : AHeap} {a b : Nat} {ps : List Pk} (h : NetAt H a b ps) (hw : H.Wf) (x : AObj) : NetAt (H.push x) a b ps := h.ext fun j y hj => by
  have := next_lt hw hj
  simp only [AHeap.get_push]
  rw [if_neg (by omega)]; exact hj
theorem Kept.push {H H' : AHeap} {a b b' : Nat} (h : Kept H H' a b b') (x : AObj) : Kept H (H'.push x) a b b' := by
  obtain ⟨h1, h2, h3⟩ := h
  refine ⟨by simp; omega, h2, fun j hj e1 e2 => ?_⟩
  simp only [AHeap.get_push]
  rw [if_neg (by omega)]; exact h3 j hj e1 e2

theorem Kept.of_push {H H' : AHeap} {a b b' : Nat} {x : AObj} (h : Kept (H.push x) H' a b b') : Kept H H' a b b' := by
  obtain ⟨h1, h2, h3⟩ := h
  simp at h1 h2
  refine ⟨by omega, by omega, fun j hj e1 e2 => ?_⟩
  rw [h3 j (by simp; omega) e1 e2]
  simp only [AHeap.get_push]
  rw [if_neg (by omega)]

theorem lose_none (H : AHeap) (a b : Nat) (ps : List Pk) (k : Int) (h : NetAt H a b ps) (hk : k < 0 ∨ ps.length ≤ k) : Does Try.prog G 16 [.ptr a 0, .int .i64 k] H fun r H' => r = .bool false ∧ H' = H := by
  refine Does.forgot (R := fun r H' => r = .bool false ∧ ∀ j x, H.get j = some x → H'.get j = some x) ?_ ?_
  · refine Does.wf Try.call16 fun hw _ => ?_
    refine does_f Try.call16 Try.func16 rfl (by simp [Try.f16]) ?_
    simp
    refine does_use (deliver_none _ a b ps k h hk) ?_
    rintro _ _ ⟨rfl, rfl⟩
    simp
    intro j x hj
    have := next_lt hw hj
    rw [if_neg (by omega)]; exact hj
  · rintro hw ha r H1 ⟨rfl, h⟩
    exact ⟨h, by simp [AV.idLt], rfl, rfl⟩

theorem lose_some (H : AHeap) (a b : Nat) (A B : List Pk) (p : Pk) (k : Nat) (h : NetAt H a b (A ++ p :: B)) (hk : k = A.length) (hl : (p.b.getD []).length ≤ 1000000) :
    Does Try.prog G 16 [.ptr a 0, .int .i64 k] H fun r H' => r = .bool true ∧ NetAt H' a b (A ++ B) ∧ Kept H H' a b b := by
  refine Does.wf Try.call16 fun hw _ => ?_
  refine does_f Try.call16 Try.func16 rfl (by simp [Try.f16]) ?_
  simp
  refine does_usew (deliver_some _ a b A B p k h hk hl) ?_
  rintro _ H1 ⟨rfl, h1, h2⟩ hw1 _
  simp [Pk.cells]
  exact ⟨h1.push hw1 _, h2.push _⟩
theorem double_none (H : AHeap) (a b : Nat) (ps : List Pk) (k : Int) (h : NetAt H a b ps) (hk : k < 0 ∨ ps.length ≤ k) : Does Try.prog G 13 [.ptr a 0, .int .i64 k] H fun r H' => r = .int .i64 5 ∧ H' = H := by
  refine Does.forgot (R := fun r H' => r = .int .i64 5 ∧ ∀ j x, H.get j = some x → H'.get j = some x) ?_ ?_
  · refine Does.wf Try.call13 fun hw _ => ?_
    refine does_f Try.call13 Try.func13 rfl (by simp [Try.f13]) ?_
    simp
    refine does_use (see_none _ a b ps k h hk) ?_
    rintro _ _ ⟨rfl, rfl⟩
    simp
    intro j x hj
    have := next_lt hw hj
    rw [if_neg (by omega)]; exact hj
  · rintro hw ha r H1 ⟨rfl, h⟩
    exact ⟨h, by simp [AV.idLt], rfl, rfl⟩

theorem double_some (H : AHeap) (a b : Nat) (A B : List Pk) (p : Pk) (k : Nat) (h : NetAt H a b (A ++ p :: B)) (hk : k = A.length) (hn : (A ++ p :: B).length < 512) (hl : (p.b.getD []).length ≤ 1000000) :
    Does Try.prog G 13 [.ptr a 0, .int .i64 k] H fun r H' => r = .int .i64 0 ∧ ∃ b', NetAt H' a b' (A ++ p :: B ++ [p]) ∧ Kept H H' a b b' := by
  refine Does.wf Try.call13 fun hw _ => ?_
  refine does_f Try.call13 Try.func13 rfl (by simp [Try.f13]) ?_
  simp
  refine does_use (see_some _ a b A B p k h hk hl) ?_
  rintro _ _ ⟨rfl, rfl⟩
  simp [Pk.cells]
  refine does_use (send_small _ a b (A ++ p :: B) p.f p.t (pkb p.b) (p.b.getD []) p (h.push hw _) hn (pkb_bts _ _) hl (by simp [Pk.cells])) ?_
  rintro _ H1 ⟨rfl, b', h1, h2⟩
  simp
  exact ⟨b', by simpa using h1, h2.of_push⟩
theorem double_full (H : AHeap) (a b : Nat) (A B : List Pk) (p q : Pk) (ps : List Pk) (k : Nat) (h : NetAt H a b (A ++ p :: B)) (hk : k = A.length) (he : A ++ p :: B = q :: ps) (hn : ps.length = 511) (hl : (p.b.getD []).length ≤ 1000000) :
    Does Try.prog G 13 [.ptr a 0, .int .i64 k] H fun r H' => r = .int .i64 0 ∧ ∃ b', NetAt H' a b' (ps ++ [p]) ∧ Kept H H' a b b' := by
  refine Does.wf Try.call13 fun hw _ => ?_
  refine does_f Try.call13 Try.func13 rfl (by simp [Try.f13]) ?_
  simp
  refine does_use (see_some _ a b A B p k h hk hl) ?_
  rintro _ _ ⟨rfl, rfl⟩
  simp [Pk.cells]
  refine does_use (send_full _ a b q ps p.f p.t (pkb p.b) (p.b.getD []) p (by rw [← he]; exact h.push hw _) hn (pkb_bts _ _) hl (by simp [Pk.cells]) (by cases p.b <;> simp [pkb])) ?_
  rintro _ H1 ⟨rfl, b', h1, h2⟩
  simp
  exact ⟨b', h1, h2.of_push⟩

theorem pred_spec (H : AHeap) (i : Nat) (p : Pk) (to : Int) (hi : H.get i = some (.cells [.int .i64 to])) : Does Try.prog G 22 [.agg p.cells, .ptr i 0] H fun r H' => r = .bool (decide (p.t = to)) ∧ H' = H := by
  refine Does.forgot (R := fun r H' => r = .bool (decide (p.t = to)) ∧ ∀ j x, H.get j = some x → H'.get j = some x) ?_ ?_
  · refine Does.wf Try.call22 fun hw _ => ?_
    have := next_lt hw hi
    have i1 : i ≠ H.next := by omega
    refine does_f Try.call22 Try.func22 rfl (by simp [Try.f22]) ?_
    simp [Pk.cells, i1, hi]
    intro j x hj
    have := next_lt hw hj
    rw [if_neg (by omega)]; exact hj
  · rintro hw ha r H1 ⟨rfl, h⟩
    exact ⟨h, by simp [AV.idLt], rfl, rfl⟩
end Go.Proofs
