import Derived.Test.YtcbiaeoladjecaaNkL
namespace Go.Proofs
open Go Go.Abs
set_option linter.unusedSimpArgs false
variable {G : Nat → Option AV}

theorem NetAt.grows {H H' : AHeap} {a b : Nat} {ps : List Pk} (h : NetAt H a b ps) (g : Grows H H') : NetAt H' a b ps := h.ext g.2.1

theorem deliver_live (H : AHeap) (a b : Nat) (A B : List Pk) (p : Pk) (k : Nat) (h : NetAt H a b (A ++ p :: B)) (hk : k = A.length) (hl : (p.b.getD []).length ≤ 1000000) :
    Does Try.prog G 11 [.ptr a 0, .int .i64 k] H fun r H' => ∃ y, r = .tuple [.agg [.int .i64 p.f, .int .i64 p.t, y], .bool true] ∧ LiveB H' y p.b H.next ∧ NetAt H' a b (A ++ B) ∧ Kept H H' a b b := by
  refine Does.wf Try.call11 fun hw _ => ?_
  have olda : ∀ j x, H.get j = some x → j < H.next := fun j x hj => next_lt hw hj
  obtain ⟨l, hl1, ⟨rfl, h, _⟩ | ⟨c, op, junk, rfl, hne, hb, hc, hc1⟩⟩ := h
  · simp at h
  have oa := olda _ _ hl1
  have ob := olda _ _ hb
  have a1 : a ≠ H.next := by omega
  have b1 : b ≠ H.next := by omega
  refine does_f Try.call11 Try.func11 rfl (by simp [Try.f11]) ?_
  simp
  refine does_usew (see_live _ a b A B p k ⟨.sl b 0 3 (A ++ p :: B).length c op, by simpa [a1] using hl1, .inr ⟨c, op, junk, rfl, hne, by simp [b1, hb], hc, hc1⟩⟩ hk hl) ?_
  rintro _ H2 ⟨y, rfl, hy, hg⟩ hw2 _
  have n2 := hg.1
  simp at n2
  have gA : H2.get a = some (.cells [.sl b 0 3 (A ++ p :: B).length c op]) := hg.2.1 _ _ (by simp [a1, hl1])
  have gB : H2.get b = some (.cells (flat (A ++ p :: B) ++ junk)) := hg.2.1 _ _ (by simp [b1, hb])
  have gN : H2.get H.next = some (.cells [.int .i64 0, .int .i64 0, .nilsl]) := hg.2.1 _ _ (by simp)
  have a2 : a ≠ H2.next := by omega
  have b2 : b ≠ H2.next := by omega
  have m2 : H.next ≠ H2.next := by omega
  have hsc := hy.scalar
  have hcl := hy.cells
  have w1 : IntKind.i64.wrap ((k : Int) + 1) = k + 1 := IntWalk.i64_in _ (by simp at hc; omega)
  simp [hsc, hcl, gA, a2, w1]
  simp at hc
  refine does_use (delete_spec _ b c k B.length (A.length + (B.length + 1)) op (flat A) p.cells (flat B) junk ?_ (by simp [hk]) (by simp) (by simp) (flat_scalar _) (by omega) hc1 (by omega)) ?_
  · simp [gB, b2]
  rintro _ _ ⟨rfl, rfl⟩
  simp [gA, gB, gN, a1, a2, b1, b2, m2, hne, hsc, hcl, Ne.symm hne, Ne.symm a1, Ne.symm a2, Ne.symm b1, Ne.symm b2, Ne.symm m2]
  refine ⟨?_, ⟨.sl b 0 3 (A ++ B).length c op, by simp [a1, hk], .inr ⟨c, op, _, rfl, hne, by simp [hne, b1, List.append_assoc]; rfl, by simp; omega, hc1⟩⟩, by simp; omega, .inl rfl, fun j hj h1 h2 => ?_⟩
  · rcases hy with h | ⟨bs, i, c', op', h1, h2, h3, h4, h5⟩
    · exact .inl h
    · simp at h5
      have i2 := next_lt hw2 h4
      have e1 : i ≠ H.next := by omega
      have e2 : i ≠ H2.next := by omega
      have e3 : i ≠ a := by omega
      have e4 : i ≠ b := by omega
      exact .inr ⟨bs, i, c', op', h1, h2, h3, by simp [e1, e2, e3, e4, h4], by omega⟩
  · have n1 : j ≠ H.next := by omega
    have n3 : j ≠ H2.next := by omega
    have h3 := hg.2.2 j (by simp; omega)
    simp [n1] at h3
    simp [h1, h2, n1, n3, h3]
end Go.Proofs
