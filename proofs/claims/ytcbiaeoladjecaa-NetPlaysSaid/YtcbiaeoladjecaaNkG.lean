import Derived.Test.YtcbiaeoladjecaaNkF
namespace Go.Proofs
open Go Go.Abs
set_option linter.unusedSimpArgs false
variable {G : Nat → Option AV}

theorem index_nil (H : AHeap) (f : AV) : Does Try.prog G 21 [.nilsl, f] H fun r H' => r = .int .i64 (-1) ∧ H' = H := by
  refine does_f Try.call21 Try.func21 rfl (by simp [Try.f21]) ?_
  simp
  refine aws_loop (fun m T' H' => T' 7 = .int .i64 0 ∧ T' 8 = .int .i64 0 ∧ H' = H) 0 (by simp) ?_
  rintro m T H' ⟨h7, h8, rfl⟩
  simp [h7, h8]

theorem idx_none {ps : List Pk} {to : Int} (h : ∀ p ∈ ps, p.t ≠ to) : idx ps to = -1 := by
  unfold idx
  have : ps.findIdx? (fun p => decide (p.t = to)) = none := by
    rw [List.findIdx?_eq_none_iff]
    intro x hx; simpa using h x hx
  rw [this]
theorem idx_some {A B : List Pk} {p : Pk} {to : Int} (h : ∀ q ∈ A, q.t ≠ to) (hp : p.t = to) : idx (A ++ p :: B) to = A.length := by
  unfold idx
  have : (A ++ p :: B).findIdx? (fun p => decide (p.t = to)) = some A.length := by
    rw [List.findIdx?_eq_some_iff_getElem]
    refine ⟨by simp, by simpa using hp, fun j hj => ?_⟩
    rw [List.getElem_append_left hj]
    simpa using h _ (List.getElem_mem _)
  rw [this]

/-- The list is asked. -/
theorem index_net (H : AHeap) (a b i : Nat) (l : AV) (ps : List Pk) (to : Int) (hl : H.get a = some (.cells [l])) (hi : H.get i = some (.cells [.int .i64 to]))
    (h : (l = .nilsl ∧ ps = [] ∧ b = a) ∨ ∃ c op junk, l = .sl b 0 3 ps.length c op ∧ b ≠ a ∧ H.get b = some (.cells (flat ps ++ junk)) ∧ ps.length * 3 + junk.length = 3 * c ∧ c < 1000000) :
    Does Try.prog G 21 [l, .func (.func 22) [] [.ptr i 0]] H fun r H' => r = .int .i64 (idx ps to) ∧ H' = H := by
  rcases h with ⟨rfl, rfl, rfl⟩ | ⟨c, op, junk, rfl, hne, hb, hc, hc1⟩
  · exact index_nil H _
  · exact index_spec H b i c op ps junk to hi hb hc hc1

theorem oldest_none (H : AHeap) (a b : Nat) (ps : List Pk) (to : Int) (h : NetAt H a b ps) (hn : ∀ p ∈ ps, p.t ≠ to) : Does Try.prog G 12 [.ptr a 0, .int .i64 to] H fun r H' => r = .tuple [.agg [.int .i64 0, .int .i64 0, .nilsl], .bool false] ∧ H' = H := by
  refine Does.forgot (R := fun r H' => r = .tuple [.agg [.int .i64 0, .int .i64 0, .nilsl], .bool false] ∧ ∀ j x, H.get j = some x → H'.get j = some x) ?_ ?_
  · refine Does.wf Try.call12 fun hw _ => ?_
    have old : ∀ j x, H.get j = some x → j ≠ H.next ∧ j ≠ H.next + 1 := fun j x hj => by have := next_lt hw hj; omega
    refine does_f Try.call12 Try.func12 rfl (by simp [Try.f12]) ?_
    obtain ⟨l, hl, h⟩ := h
    have ha := old _ _ hl
    have hl' : ((H.push (.cells [.int .i64 to])).push (.cells [.int .i64 0, .int .i64 0, .nilsl])).get a = some (.cells [l]) := by simp [hl, ha]
    have h' : (l = .nilsl ∧ ps = [] ∧ b = a) ∨ ∃ c op junk, l = .sl b 0 3 ps.length c op ∧ b ≠ a ∧ ((H.push (.cells [.int .i64 to])).push (.cells [.int .i64 0, .int .i64 0, .nilsl])).get b = some (.cells (flat ps ++ junk)) ∧ ps.length * 3 + junk.length = 3 * c ∧ c < 1000000 := by
      rcases h with h | ⟨c, op, junk, rfl, hne, hb, hc⟩
      · exact .inl h
      · have := old _ _ hb
        exact .inr ⟨c, op, junk, rfl, hne, by simp [hb, this], hc⟩
    simp [hl, ha]
    refine does_use (index_net _ a b H.next l ps to hl' (by simp) h') ?_
    rintro _ _ ⟨rfl, rfl⟩
    rw [idx_none hn]
    simp
    refine does_use (deliver_none _ a b ps (-1) ⟨l, hl', h'⟩ (by omega)) ?_
    rintro _ _ ⟨rfl, rfl⟩
    simp
    intro j x hj
    simp [hj, old j x hj]
  · rintro hw ha r H1 ⟨rfl, h⟩
    exact ⟨h, by simp [AV.idLt, AV.allLt], rfl, rfl⟩

theorem oldest_some (H : AHeap) (a b : Nat) (A B : List Pk) (p : Pk) (to : Int) (h : NetAt H a b (A ++ p :: B)) (hn : ∀ q ∈ A, q.t ≠ to) (hp : p.t = to) (hl : (p.b.getD []).length ≤ 1000000) :
    Does Try.prog G 12 [.ptr a 0, .int .i64 to] H fun r H' => r = .tuple [.agg p.cells, .bool true] ∧ NetAt H' a b (A ++ B) ∧ Kept H H' a b b := by
  refine Does.wf Try.call12 fun hw _ => ?_
  have old : ∀ j x, H.get j = some x → j ≠ H.next ∧ j ≠ H.next + 1 := fun j x hj => by have := next_lt hw hj; omega
  have olda : ∀ j x, H.get j = some x → j < H.next := fun j x hj => next_lt hw hj
  refine does_f Try.call12 Try.func12 rfl (by simp [Try.f12]) ?_
  obtain ⟨l, hl1, h⟩ := h
  have ha := old _ _ hl1
  have hal := olda _ _ hl1
  have hl' : ((H.push (.cells [.int .i64 to])).push (.cells [.int .i64 0, .int .i64 0, .nilsl])).get a = some (.cells [l]) := by simp [hl1, ha]
  have h' : (l = .nilsl ∧ (A ++ p :: B) = [] ∧ b = a) ∨ ∃ c op junk, l = .sl b 0 3 (A ++ p :: B).length c op ∧ b ≠ a ∧ ((H.push (.cells [.int .i64 to])).push (.cells [.int .i64 0, .int .i64 0, .nilsl])).get b = some (.cells (flat (A ++ p :: B) ++ junk)) ∧ (A ++ p :: B).length * 3 + junk.length = 3 * c ∧ c < 1000000 := by
    rcases h with h | ⟨c, op, junk, rfl, hne, hb, hc⟩
    · exact .inl h
    · have := old _ _ hb
      exact .inr ⟨c, op, junk, rfl, hne, by simp [hb, this], hc⟩
  have hb : b < H.next := by
    rcases h with ⟨_, h, _⟩ | ⟨c, op, junk, rfl, hne, hb, hc⟩
    · simp at h
    · exact olda _ _ hb
  simp [hl1, ha]
  refine does_use (index_net _ a b H.next l _ to hl' (by simp) h') ?_
  rintro _ _ ⟨rfl, rfl⟩
  rw [idx_some hn hp]
  simp
  refine does_usew (deliver_some _ a b A B p A.length ⟨l, hl', h'⟩ rfl hl) ?_
  rintro _ H1 ⟨rfl, h1, h2⟩ hw1 _
  have hg : H1.get (H.next + 1) = some (.cells [.int .i64 0, .int .i64 0, .nilsl]) := by
    rw [h2.2.2 (H.next + 1) (by simp) (by omega) (by omega)]; simp
  simp [Pk.cells, hg]
  refine ⟨?_, ?_⟩
  · obtain ⟨l2, g1, g2⟩ := h1
    refine ⟨l2, by simp [g1, ha], ?_⟩
    rcases g2 with g2 | ⟨c, op, junk, rfl, hne, g3, g4⟩
    · exact .inl g2
    · exact .inr ⟨c, op, junk, rfl, hne, by rw [AHeap.get_set, if_neg (by omega)]; exact g3, g4⟩
  · obtain ⟨k1, k2, k3⟩ := h2
    refine ⟨by simp at k1; simp; omega, .inl rfl, fun j hj e1 e2 => ?_⟩
    have := k3 j (by simp; omega) e1 e2
    simp only [AHeap.get_set]
    rw [if_neg (by omega), this]
    show (if j = H.next + 1 then _ else (if j = H.next then _ else H.get j)) = _
    have n1 : j ≠ H.next + 1 := by omega
    have n2 : j ≠ H.next := by omega
    simp [n1, n2]
end Go.Proofs
