import Derived.Test.YtcbiaeoladjecaaNkA
namespace Go.Proofs
open Go Go.Abs
set_option linter.unusedSimpArgs false
variable {G : Nat → Option AV}

def b8 (bs : List UInt8) : List AV := bs.map fun b => .int .u8 b.toNat
@[simp] theorem b8_length (bs : List UInt8) : (b8 bs).length = bs.length := by simp [b8]
theorem b8_scalar (bs : List UInt8) : ∀ x ∈ b8 bs, x.scalar = true := by simp [b8]

structure Pk where
  f : Int
  t : Int
  b : Option (List UInt8)

def pkb : Option (List UInt8) → AV
  | none => .nilsl
  | some bs => .vsl (b8 bs) bs.length
def Pk.cells (p : Pk) : List AV := [.int .i64 p.f, .int .i64 p.t, pkb p.b]
def flat (ps : List Pk) : List AV := ps.flatMap Pk.cells
@[simp] theorem flat_nil : flat [] = [] := rfl
@[simp] theorem flat_cons (p : Pk) (ps : List Pk) : flat (p :: ps) = p.cells ++ flat ps := by simp [flat]
@[simp] theorem flat_append (ps qs : List Pk) : flat (ps ++ qs) = flat ps ++ flat qs := by simp [flat]
@[simp] theorem Pk.cells_length (p : Pk) : p.cells.length = 3 := rfl
@[simp] theorem flat_length (ps : List Pk) : (flat ps).length = ps.length * 3 := by
  induction ps with
  | nil => rfl
  | cons p ps ih => simp [ih]; omega
@[simp] theorem pkb_scalar (b : Option (List UInt8)) : (pkb b).scalar = true := by cases b <;> rfl
theorem flat_scalar (ps : List Pk) : ∀ x ∈ flat ps, x.scalar = true := by
  induction ps with
  | nil => simp
  | cons p ps ih =>
    intro x hx
    simp only [flat_cons, List.mem_append] at hx
    rcases hx with hx | hx
    · simp [Pk.cells] at hx; rcases hx with rfl | rfl | rfl <;> simp
    · exact ih x hx

/-- A Net at a, its list's block at b. -/
def NetAt (H : AHeap) (a b : Nat) (ps : List Pk) : Prop := ∃ l, H.get a = some (.cells [l]) ∧
  ((l = .nilsl ∧ ps = [] ∧ b = a) ∨ ∃ c op junk, l = .sl b 0 3 ps.length c op ∧ b ≠ a ∧ H.get b = some (.cells (flat ps ++ junk)) ∧ ps.length * 3 + junk.length = 3 * c ∧ c < 1000000)

theorem new_spec (H : AHeap) : Does Try.prog G 10 [] H fun r H' => r = .ptr H.next 0 ∧ H' = H.push (.cells [.nilsl]) := by
  refine does_f Try.call10 Try.func10 rfl (by simp [Try.f10]) ?_
  simp

theorem len_spec' (H : AHeap) (a b : Nat) (ps : List Pk) (h : NetAt H a b ps) : Does Try.prog G 17 [.ptr a 0] H fun r H' => r = .int .i64 ps.length ∧ H' = H := by
  refine does_f Try.call17 Try.func17 rfl (by simp [Try.f17]) ?_
  obtain ⟨l, hl, ⟨rfl, rfl, rfl⟩ | ⟨c, op, junk, rfl, hne, hb, hc⟩⟩ := h
  · simp [hl]
  · simp [hl]

/-- Any index that is none. -/
theorem see_none (H : AHeap) (a b : Nat) (ps : List Pk) (k : Int) (h : NetAt H a b ps) (hk : k < 0 ∨ ps.length ≤ k) : Does Try.prog G 15 [.ptr a 0, .int .i64 k] H fun r H' => r = .tuple [.agg [.int .i64 0, .int .i64 0, .nilsl], .bool false] ∧ H' = H := by
  refine Does.forgot (R := fun r H' => r = .tuple [.agg [.int .i64 0, .int .i64 0, .nilsl], .bool false] ∧ ∀ j x, H.get j = some x → H'.get j = some x) ?_ ?_
  · refine Does.wf Try.call15 fun hw _ => ?_
    have old : ∀ j x, H.get j = some x → j ≠ H.next := fun j x hj => by have := next_lt hw hj; omega
    refine does_f Try.call15 Try.func15 rfl (by simp [Try.f15]) ?_
    by_cases h0 : k < 0
    · simp [h0]
      intro j x hj; simp [hj, old j x hj]
    · have h1 : (ps.length : Int) ≤ k := by omega
      obtain ⟨l, hl, ⟨rfl, rfl, rfl⟩ | ⟨c, op, junk, rfl, hne, hb, hc⟩⟩ := h
      · have h2 : 0 ≤ k := by omega
        have := old _ _ hl
        simp [h0, hl, this, h2]
        intro j x hj; simp [hj, old j x hj]
      · have := old _ _ hl
        simp [h0, hl, this, h1]
        intro j x hj; simp [hj, old j x hj]
  · rintro hw ha r H1 ⟨rfl, h⟩
    exact ⟨h, by simp [AV.idLt, AV.allLt], rfl, rfl⟩
theorem pkb_bts (H : AHeap) (b : Option (List UInt8)) : Bts H (pkb b) (b8 (b.getD [])) := by
  cases b with
  | none => exact .inl ⟨rfl, rfl⟩
  | some bs => exact .inr (.inl (by simp [pkb]))
@[simp] theorem pkb_fzb (b : Option (List UInt8)) : fzb (pkb b) (b8 (b.getD [])) = pkb b := by
  cases b with
  | none => rfl
  | some bs => simp [pkb, fzb]

theorem b8_lt (n : Nat) (bs : List UInt8) : AV.allLt n (b8 bs) = true := by
  induction bs with
  | nil => rfl
  | cons a bs ih => simpa [b8, AV.allLt, AV.idLt] using ih
@[simp] theorem pkb_lt (n : Nat) (b : Option (List UInt8)) : (pkb b).idLt n = true := by
  cases b with
  | none => rfl
  | some bs => simp [pkb, AV.idLt, b8_lt]

theorem see_some (H : AHeap) (a b : Nat) (A B : List Pk) (p : Pk) (k : Nat) (h : NetAt H a b (A ++ p :: B)) (hk : k = A.length) (hlen : (p.b.getD []).length ≤ 1000000) :
    Does Try.prog G 15 [.ptr a 0, .int .i64 k] H fun r H' => r = .tuple [.agg p.cells, .bool true] ∧ H' = H := by
  refine Does.forgot (R := fun r H' => r = .tuple [.agg p.cells, .bool true] ∧ ∀ j x, H.get j = some x → H'.get j = some x) ?_ ?_
  · refine Does.wf Try.call15 fun hw _ => ?_
    have old : ∀ j x, H.get j = some x → j ≠ H.next := fun j x hj => by have := next_lt hw hj; omega
    obtain ⟨l, hl, ⟨rfl, h, _⟩ | ⟨c, op, junk, rfl, hne, hb, hc⟩⟩ := h
    · simp at h
    refine does_f Try.call15 Try.func15 rfl (by simp [Try.f15]) ?_
    have h0 : ¬ (k : Int) < 0 := by omega
    have h1 : ¬ ((A ++ p :: B).length : Int) ≤ k := by simp; omega
    have h2 : (k : Int) < (A ++ p :: B).length := by simp; omega
    have h3 : (k : Int) ≤ (A ++ p :: B).length := by simp; omega
    have h4 : k < (A ++ p :: B).length := by simp; omega
    have oa := old _ _ hl
    have ob := old _ _ hb
    have h5 : List.drop (k * 3) (flat (A ++ p :: B) ++ junk) = p.cells ++ (flat B ++ junk) := by
      simp only [flat_append, flat_cons, List.append_assoc]
      rw [List.drop_left' (by simp [hk])]
    have h6 : k * 3 ≤ (flat (A ++ p :: B) ++ junk).length := by simp; omega
    generalize hn : (A ++ p :: B).length = n at *
    generalize flat (A ++ p :: B) ++ junk = cs at *
    simp [h0, hl, oa, h1, h2, h3, h4, ob, hb, h5, h6]
    simp [Pk.cells]
    refine does_use (copied_frozen _ _ _ _ (b8 (p.b.getD [])) (pkb_bts _ _) (b8_scalar _) (by simpa using hlen)) ?_
    rintro _ _ ⟨rfl, rfl⟩
    simp
    exact ⟨rfl, fun j x hj => by simp [hj, old j x hj]⟩
  · rintro hw ha r H1 ⟨rfl, h⟩
    refine ⟨h, ?_, rfl, rfl⟩
    simp [AV.idLt, AV.allLt, Pk.cells, pkb_lt]
/-- What a call on a Net leaves alone. -/
def Kept (H H' : AHeap) (a b b' : Nat) : Prop := H.next ≤ H'.next ∧ (b' = b ∨ H.next ≤ b') ∧ ∀ j, j < H.next → j ≠ a → j ≠ b → H'.get j = H.get j

theorem send_small (H : AHeap) (a b : Nat) (ps : List Pk) (f t : Int) (x : AV) (bs : List UInt8) (p : Pk) (h : NetAt H a b ps) (hn : ps.length < 512) (hx : Bts H x (b8 bs)) (hlen : bs.length ≤ 1000000) (hp : [.int .i64 f, .int .i64 t, fzb x (b8 bs)] = p.cells) :
    Does Try.prog G 14 [.ptr a 0, .agg [.int .i64 f, .int .i64 t, x]] H fun r H' => r = .int .i64 0 ∧ ∃ b', NetAt H' a b' (ps ++ [p]) ∧ Kept H H' a b b' := by
  refine Does.wf Try.call14 fun hw _ => ?_
  have old : ∀ j x, H.get j = some x → j ≠ H.next := fun j x hj => by have := next_lt hw hj; omega
  have olda : ∀ j x, H.get j = some x → j < H.next := fun j x hj => next_lt hw hj
  have hsx : x.scalar = true := by rcases hx with ⟨rfl, _⟩ | rfl | ⟨b, c, op, rfl, _⟩ <;> rfl
  have hn1 : ¬ ((ps.length : Int) = 512) := by omega
  refine does_f Try.call14 Try.func14 rfl (by simp [Try.f14]) ?_
  obtain ⟨pf, pt, pb⟩ := p
  simp only [Pk.cells, List.cons.injEq, AV.int.injEq, and_true, true_and] at hp
  obtain ⟨rfl, rfl, hp⟩ := hp
  obtain ⟨l, hl, ⟨rfl, rfl, rfl⟩ | ⟨c, op, junk, rfl, hne, hb, hc⟩⟩ := h
  · have ob' := olda _ _ hl
    have ob := old _ _ hl
    simp [hsx, hl, ob]
    refine aw_drawn [(4, 0), (4, 7), (5, 0)] ?_ ?_ ?_
    · exact Try.mixed
    · kernel_rfl
    intro es hes
    simp [hl, ob, hsx]
    refine ⟨_, _, copied_frozen _ f t x _ (hx.mono fun j y hj => by simp [hj, old j y hj]) (b8_scalar _) (by simpa using hlen), by simp, ?_⟩
    have o1 : b ≠ H.next + 1 := by omega
    have o2 : b ≠ H.next + 1 + 1 := by omega
    rw [hp]
    simp [rds, hl, ob, hsx, heapF, o1, o2]
    refine ⟨?_, ?_⟩
    · subst hes
      constructor
      · kernel_rfl
      · kernel_rfl
    · refine ⟨H.next + 1 + 1, ⟨_, by simp, .inr ⟨1, true, [], rfl, by omega, by simp [Ne.symm o2, Pk.cells], rfl, by omega⟩⟩, by simp; omega, .inr (by omega), fun j hj h1 h2 => ?_⟩
      have n1 : j ≠ H.next := by omega
      have n2 : j ≠ H.next + 1 := by omega
      have n3 : j ≠ H.next + 1 + 1 := by omega
      simp [h1, n1, n2, n3]
  · have oa := olda _ _ hl
    have ob := olda _ _ hb
    have a1 : a ≠ H.next := by omega
    have b1 : b ≠ H.next := by omega
    simp [hsx, hl, hb, a1, b1, hn1]
    refine aw_drawn [(4, 0), (4, 7), (5, 0)] ?_ ?_ ?_
    · exact Try.mixed
    · kernel_rfl
    intro es hes
    simp [hl, hb, a1, b1, hsx]
    refine ⟨_, _, copied_frozen _ f t x _ (hx.mono fun j y hj => by simp [hj, old j y hj]) (b8_scalar _) (by simpa using hlen), by simp, ?_⟩
    have a2 : a ≠ H.next + 1 := by omega
    have b2 : b ≠ H.next + 1 := by omega
    have a3 : a ≠ H.next + 1 + 1 := by omega
    have b3 : b ≠ H.next + 1 + 1 := by omega
    rw [hp]
    have d1 : List.drop (ps.length * 3 + 3) (flat ps ++ junk) = junk.drop 3 := by
      rw [← List.drop_drop, List.drop_left' (by simp)]
    by_cases g : ps.length + 1 ≤ c
    · have g2 : (ps.length + 1) * 3 ≤ ps.length * 3 + junk.length := by omega
      simp [rds, hl, hb, hsx, heapF, a1, a2, a3, b1, b2, b3, g, g2, d1, hne, Ne.symm hne]
      refine ⟨?_, ?_⟩
      · subst hes
        constructor
        · kernel_rfl
        · kernel_rfl
      · refine ⟨b, ⟨_, by simp; rfl, .inr ⟨c, op, junk.drop 3, by simp, hne, by simp [hne, Pk.cells], by simp; omega, by omega⟩⟩, by simp; omega, .inl rfl, fun j hj h1 h2 => ?_⟩
        have n1 : j ≠ H.next := by omega
        have n2 : j ≠ H.next + 1 := by omega
        simp [h1, h2, n1, n2]
    · have g2 : (ps.length + 1) * 40 ≤ 140737488355328 := by omega
      have g3 : ps.length ≤ 4611686018427387903 := by omega
      cases op
      all_goals
        simp [rds, hl, hb, hsx, heapF, a1, a2, a3, b1, b2, b3, g, g2, g3, d1, hne, Ne.symm hne]
        refine ⟨?_, ?_⟩
        · subst hes
          constructor
          · kernel_rfl
          · kernel_rfl
        · refine ⟨H.next + 1 + 1, ⟨_, by simp; rfl, .inr ⟨ps.length + 1, true, [], by simp, by omega, by simp [Ne.symm a3, Pk.cells], by simp; omega, by omega⟩⟩, by simp; omega, .inr (by omega), fun j hj h1 h2 => ?_⟩
          have n1 : j ≠ H.next := by omega
          have n2 : j ≠ H.next + 1 := by omega
          have n3 : j ≠ H.next + 1 + 1 := by omega
          simp [h1, h2, n1, n2, n3]
end Go.Proofs
