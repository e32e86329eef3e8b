import Derived.Test.YtcbiaeoladjecaaNkK
namespace Go.Proofs
open Go Go.Abs
set_option linter.unusedSimpArgs false
variable {G : Nat → Option AV}

/-- What was there is there. -/
def Grows (H H' : AHeap) : Prop := H.next ≤ H'.next ∧ (∀ j x, H.get j = some x → H'.get j = some x) ∧ ∀ j, j < H.next → H'.get j = H.get j
theorem Grows.refl (H : AHeap) : Grows H H := ⟨Nat.le_refl _, fun _ _ h => h, fun _ _ => rfl⟩
theorem Grows.trans {A B C : AHeap} (h : Grows A B) (g : Grows B C) : Grows A C := ⟨Nat.le_trans h.1 g.1, fun j x hj => g.2.1 j x (h.2.1 j x hj), fun j hj => (g.2.2 j (Nat.lt_of_lt_of_le hj h.1)).trans (h.2.2 j hj)⟩
theorem Grows.push {H : AHeap} (hw : H.Wf) (x : AObj) : Grows H (H.push x) := ⟨by simp, fun j y hj => by
  have := next_lt hw hj
  simp only [AHeap.get_push]
  rw [if_neg (by omega)]; exact hj, fun j hj => by
  simp only [AHeap.get_push]
  rw [if_neg (by omega)]⟩
/-- Bytes in a block of their own, from n on. -/
def LiveB (H : AHeap) (y : AV) (b : Option (List UInt8)) (n : Nat) : Prop :=
  (b = none ∧ y = .nilsl) ∨ ∃ bs i c op, b = some bs ∧ y = .sl i 0 1 bs.length c op ∧ bs.length ≤ c ∧ H.get i = some (.cells (b8 bs)) ∧ n ≤ i

theorem LiveB.scalar {H : AHeap} {y : AV} {b : Option (List UInt8)} {n : Nat} (h : LiveB H y b n) : y.scalar = true := by
  rcases h with ⟨_, rfl⟩ | ⟨bs, i, c, op, _, rfl, _⟩ <;> rfl
theorem LiveB.cells {H : AHeap} {y : AV} {b : Option (List UInt8)} {n : Nat} (h : LiveB H y b n) : y.cells = [y] := by
  rcases h with ⟨_, rfl⟩ | ⟨bs, i, c, op, _, rfl, _⟩ <;> rfl

theorem clone_live (H : AHeap) (b : Option (List UInt8)) (hl : (b.getD []).length ≤ 1000000) : Does Try.prog G 24 [pkb b] H fun r H' => LiveB H' r b H.next ∧ Grows H H' := by
  cases b with
  | none => exact (clone_nil H).mono fun r H' ⟨h1, h2⟩ => by rw [h2, h1]; exact ⟨.inl ⟨rfl, rfl⟩, Grows.refl H⟩
  | some bs =>
    refine Does.wf Try.call24 fun hw _ => ?_
    have h := clone_vsl (G := G) H (b8 bs) (b8_scalar bs) (by simpa using hl)
    simp only [b8_length] at h
    refine h.mono fun r H' hr => ?_
    rcases hr with ⟨h1, rfl, rfl⟩ | ⟨h1, rfl, rfl⟩
    · have : bs = [] := by simpa [b8] using h1
      subst this
      exact ⟨.inr ⟨[], H.next, 0, false, rfl, rfl, Nat.le_refl _, by simp [b8], Nat.le_refl _⟩, Grows.push hw _⟩
    · refine ⟨.inr ⟨bs, H.next + 1, bs.length, true, rfl, rfl, Nat.le_refl _, by simp, by omega⟩, by simp; omega, fun j x hj => ?_, fun j hj => ?_⟩
      · have := next_lt hw hj
        have n1 : j ≠ H.next := by omega
        have n2 : j ≠ H.next + 1 := by omega
        simp [hj, n1, n2]
      · have n1 : j ≠ H.next := by omega
        have n2 : j ≠ H.next + 1 := by omega
        simp [n1, n2]

theorem copied_live (H : AHeap) (f t : Int) (b : Option (List UInt8)) (hl : (b.getD []).length ≤ 1000000) :
    Does Try.prog G 23 [.agg [.int .i64 f, .int .i64 t, pkb b]] H fun r H' => ∃ y, r = .agg [.int .i64 f, .int .i64 t, y] ∧ LiveB H' y b H.next ∧ Grows H H' := by
  refine Does.wf Try.call23 fun hw _ => ?_
  have old : ∀ j x, H.get j = some x → j ≠ H.next ∧ j ≠ H.next + 1 := fun j x hj => by have := next_lt hw hj; omega
  refine does_f Try.call23 Try.func23 rfl (by simp [Try.f23]) ?_
  simp
  refine does_use (clone_live _ b hl) ?_
  rintro y H2 ⟨hy, hg⟩
  have g0 : H2.get H.next = some (.cells [.int .i64 f, .int .i64 t, pkb b]) := hg.2.1 _ _ (by simp)
  have g1 : H2.get (H.next + 1) = some (.cells [.int .i64 0, .int .i64 0, .nilsl]) := hg.2.1 _ _ (by simp)
  have hn := hg.1
  simp at hn
  have hsc := hy.scalar
  have hcl := hy.cells
  simp [g0, g1, hsc, hcl]
  refine ⟨?_, by simp; omega, fun j x hj => ?_, fun j hj => ?_⟩
  rotate_left 2
  · have n1 : j ≠ H.next := by omega
    have n2 : j ≠ H.next + 1 := by omega
    have h3 := hg.2.2 j (by simp; omega)
    simp [n1, n2] at h3
    simp [n1, n2, h3]
  · rcases hy with h | ⟨bs, i, c, op, h1, h2, h3, h4, h5⟩
    · exact .inl h
    · simp at h5
      have n1 : i ≠ H.next := by omega
      have n2 : i ≠ H.next + 1 := by omega
      exact .inr ⟨bs, i, c, op, h1, h2, h3, by simp [n1, n2, h4], by omega⟩
  · have := old j x hj
    have h3 := hg.2.1 j x (by simp [hj, this])
    simp [this, h3]

theorem see_live (H : AHeap) (a b : Nat) (A B : List Pk) (p : Pk) (k : Nat) (h : NetAt H a b (A ++ p :: B)) (hk : k = A.length) (hlen : (p.b.getD []).length ≤ 1000000) :
    Does Try.prog G 15 [.ptr a 0, .int .i64 k] H fun r H' => ∃ y, r = .tuple [.agg [.int .i64 p.f, .int .i64 p.t, y], .bool true] ∧ LiveB H' y p.b H.next ∧ Grows H H' := by
  refine Does.wf Try.call15 fun hw _ => ?_
  have old : ∀ j x, H.get j = some x → j ≠ H.next := fun j x hj => by have := next_lt hw hj; omega
  obtain ⟨l, hl, ⟨rfl, h, _⟩ | ⟨c, op, junk, rfl, hne, hb, hc⟩⟩ := h
  · simp at h
  refine does_f Try.call15 Try.func15 rfl (by simp [Try.f15]) ?_
  have h0 : ¬ (k : Int) < 0 := by omega
  have h1 : ¬ ((A ++ p :: B).length : Int) ≤ k := by simp; omega
  have h2 : (k : Int) < (A ++ p :: B).length := by simp; omega
  have h3 : (k : Int) ≤ (A ++ p :: B).length := by simp; omega
  have h4 : k < (A ++ p :: B).length := by simp; omega
  have oa := old _ _ hl
  have ob := old _ _ hb
  have h5 : List.drop (k * 3) (flat (A ++ p :: B) ++ junk) = p.cells ++ (flat B ++ junk) := by
    simp only [flat_append, flat_cons, List.append_assoc]
    rw [List.drop_left' (by simp [hk])]
  have h6 : k * 3 ≤ (flat (A ++ p :: B) ++ junk).length := by simp; omega
  generalize hn : (A ++ p :: B).length = n at *
  generalize flat (A ++ p :: B) ++ junk = cs at *
  simp [h0, hl, oa, h1, h2, h3, h4, ob, hb, h5, h6]
  simp [Pk.cells]
  refine does_use (copied_live _ _ _ _ hlen) ?_
  rintro _ H2 ⟨y, rfl, hy, hg⟩
  have g0 : H2.get H.next = some (.cells [.int .i64 0, .int .i64 0, .nilsl]) := hg.2.1 _ _ (by simp)
  have hn2 := hg.1
  simp at hn2
  have hsc := hy.scalar
  have hcl := hy.cells
  simp [g0, hsc, hcl]
  refine ⟨?_, by simp; omega, fun j x hj => ?_, fun j hj => ?_⟩
  rotate_left 2
  · have n1 : j ≠ H.next := by omega
    have h3 := hg.2.2 j (by simp; omega)
    simp [n1] at h3
    simp [n1, h3]
  · rcases hy with h | ⟨bs, i, c, op, h1, h2, h3, h4, h5⟩
    · exact .inl h
    · simp at h5
      have n1 : i ≠ H.next := by omega
      exact .inr ⟨bs, i, c, op, h1, h2, h3, by simp [n1, h4], by omega⟩
  · have := old j x hj
    have h3 := hg.2.1 j x (by simp [hj, this])
    simp [this, h3]
end Go.Proofs
