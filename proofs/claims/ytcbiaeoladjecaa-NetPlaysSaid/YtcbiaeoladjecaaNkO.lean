import Derived.Test.YtcbiaeoladjecaaNkN
namespace Go.Proofs
open Go Go.Abs
set_option linter.unusedSimpArgs false
variable {G : Nat → Option AV}

theorem abytes_take (bs : List UInt8) : abytes (List.take bs.length (b8 bs)) = some bs := by
  rw [← b8_length bs, List.take_length]; exact abytes_b8 bs

theorem same_run (H : AHeap) (f t f' t' : Int) (x y : AV) (bs bs' : List UInt8) (hx : Bts H x (b8 bs)) (hy : Bts H y (b8 bs')) :
    Does Try.prog G 18 [.agg [.int .i64 f, .int .i64 t, x], .agg [.int .i64 f', .int .i64 t', y]] H fun r H' => r = .bool (decide (f = f') && decide (t = t') && decide (bs = bs')) ∧ ∀ j z, H.get j = some z → H'.get j = some z := by
  refine Does.wf Try.call18 fun hw _ => ?_
  have old : ∀ j x, H.get j = some x → j ≠ H.next ∧ j ≠ H.next + 1 := fun j x hj => by have := next_lt hw hj; omega
  have h1 := abytes_take bs
  have h2 := abytes_take bs'
  have h3 := abytes_b8 bs
  have h4 := abytes_b8 bs'
  have key : ∀ (a b c : Bool) (H' : AHeap), (∀ j z, H.get j = some z → H'.get j = some z) → ((AV.bool (a && b && c) = .bool (a && b && c)) ∧ ∀ j z, H.get j = some z → H'.get j = some z) := fun _ _ _ _ h => ⟨rfl, h⟩
  refine does_f Try.call18 Try.func18 rfl (by simp [Try.f18]) ?_
  have fin : ∀ j z, H.get j = some z → ¬ j = H.next + 1 ∧ ¬ j = H.next := fun j z hj => ⟨(old j z hj).2, (old j z hj).1⟩
  by_cases c1 : f = f'
  · by_cases c2 : t = t'
    · subst c1; subst c2
      rcases hx with ⟨rfl, ex⟩ | rfl | ⟨i, c, op, rfl, hi⟩ <;> rcases hy with ⟨rfl, ey⟩ | rfl | ⟨i', c', op', rfl, hi'⟩
      all_goals
        try (have ex : bs = [] := by simpa [b8] using ex)
        try (have ey : bs' = [] := by simpa [b8] using ey)
        try subst ex
        try subst ey
        try (have o1 := old _ _ hi)
        try (have o2 := old _ _ hi')
        try simp only [b8_length] at *
        have e1 : ∀ l : List UInt8, l.isEmpty = decide (l = []) := fun l => by cases l <;> rfl
        clear key
        simp [*]
        try (refine ⟨?_, ?_⟩)
        all_goals first
          | (intro j z hj; have := fin j z hj; simp [hj, this]; done)
          | (simp [eq_comm]; done)
          | (rw [Bool.eq_iff_iff]; simp; done)
    · subst c1
      simp [c2]
      intro j z hj; have := fin j z hj; simp [hj, this]
  · simp [c1]
    intro j z hj; have := fin j z hj; simp [hj, this]

theorem same_spec (H : AHeap) (f t f' t' : Int) (x y : AV) (bs bs' : List UInt8) (hx : Bts H x (b8 bs)) (hy : Bts H y (b8 bs')) :
    Does Try.prog G 18 [.agg [.int .i64 f, .int .i64 t, x], .agg [.int .i64 f', .int .i64 t', y]] H fun r H' => r = .bool (decide (f = f') && decide (t = t') && decide (bs = bs')) ∧ H' = H := by
  refine Does.forgot (same_run H f t f' t' x y bs bs' hx hy) ?_
  rintro hw ha r H1 ⟨rfl, h⟩
  exact ⟨h, by simp [AV.idLt], rfl, rfl⟩

/-- A packet that the law keeps: its bytes in a block of their own. -/
structure Wp where
  f : Int
  t : Int
  bs : List UInt8
  v : AV
def Wp.cells (p : Wp) : List AV := [.int .i64 p.f, .int .i64 p.t, p.v]
def wcells (ws : List Wp) : List AV := ws.flatMap Wp.cells
@[simp] theorem wcells_nil : wcells [] = [] := rfl
@[simp] theorem wcells_cons (p : Wp) (ps : List Wp) : wcells (p :: ps) = p.cells ++ wcells ps := by simp [wcells]
@[simp] theorem wcells_append (ps qs : List Wp) : wcells (ps ++ qs) = wcells ps ++ wcells qs := by simp [wcells]
@[simp] theorem Wp.cells_length (p : Wp) : p.cells.length = 3 := rfl
@[simp] theorem wcells_length (ps : List Wp) : (wcells ps).length = ps.length * 3 := by
  induction ps with
  | nil => rfl
  | cons p ps ih => simp [ih]; omega
theorem wcells_scalar (ps : List Wp) (h : ∀ p ∈ ps, p.v.scalar = true) : ∀ x ∈ wcells ps, x.scalar = true := by
  induction ps with
  | nil => simp
  | cons p ps ih =>
    intro x hx
    simp only [wcells_cons, List.mem_append] at hx
    rcases hx with hx | hx
    · have := h p (by simp)
      simp [Wp.cells] at hx; rcases hx with rfl | rfl | rfl <;> simp [this]
    · exact ih (fun q hq => h q (by simp [hq])) x hx

set_option maxHeartbeats 1000000 in
theorem without_spec (H : AHeap) (c cap : Nat) (op : Bool) (A B : List Wp) (p : Wp) (junk : List AV) (hc : H.get c = some (.cells (wcells (A ++ p :: B) ++ junk))) (hl : (A ++ p :: B).length * 3 + junk.length = 3 * cap) (hcap : cap < 1000000)
    (hs : ∀ q ∈ A ++ p :: B, q.v.scalar = true) :
    Does Try.prog G 19 [.sl c 0 3 (A ++ p :: B).length cap op, .int .i64 A.length] H fun r H' => ∃ c' op', r = .sl c' 0 3 (A ++ B).length (A ++ B).length op' ∧ H.next ≤ c' ∧ H'.get c' = some (.cells (wcells (A ++ B))) ∧ Grows H H' := by
  refine Does.wf Try.call19 fun hw _ => ?_
  have old : ∀ j x, H.get j = some x → j < H.next := fun j x hj => next_lt hw hj
  have oc := old _ _ hc
  refine does_f Try.call19 Try.func19 rfl (by simp [Try.f19]) ?_
  have sA := wcells_scalar A fun q hq => hs q (by simp [hq])
  have sB := wcells_scalar B fun q hq => hs q (by simp [hq])
  have e1 : List.take (A.length * 3) (wcells (A ++ p :: B) ++ junk) = wcells A := by
    rw [wcells_append, List.append_assoc, List.take_left' (by simp)]
  have e2 : List.take (B.length * 3) (List.drop ((A.length + 1) * 3) (wcells (A ++ p :: B) ++ junk)) = wcells B := by
    have : wcells (A ++ p :: B) ++ junk = (wcells A ++ p.cells) ++ (wcells B ++ junk) := by simp [List.append_assoc]
    rw [this, List.drop_left' (by simp; omega), List.take_left' (by simp)]
  have hlen : (A ++ p :: B).length = A.length + (B.length + 1) := by simp
  have hlen2 : (A ++ B).length = A.length + B.length := by simp
  have hcs : (wcells (A ++ p :: B) ++ junk).length = 3 * cap := by simp at hl ⊢; omega
  rw [hlen] at hl
  generalize hcells : wcells (A ++ p :: B) ++ junk = cs at *
  have w1 : IntKind.i64.wrap ((A.length : Int) + 1) = A.length + 1 := IntWalk.i64_in _ (by omega)
  have h1 : (A.length : Int) ≤ cap := by omega
  have c1 : c ≠ H.next := by omega
  have c2 : c ≠ H.next + 1 := by omega
  simp
  refine aw_drawn [] Try.mixed (by kernel_rfl) ?_
  intro es hes
  have h2 : 0 < cap := by omega
  have h3 : A.length ≤ cap := by omega
  have h4 : A.length * 3 ≤ 3 * cap := by omega
  have h5 : A.length + 1 ≤ A.length + (B.length + 1) := by omega
  have h6 : (A.length + 1) * 3 ≤ 3 * cap := by omega
  have h7 : (A.length : Int) + 1 ≤ A.length + (B.length + 1) := by omega
  have sA' : (∀ x : AV, x ∈ wcells A → x.scalar = true) = True := eq_true sA
  have sB' : (∀ x : AV, x ∈ wcells B → x.scalar = true) = True := eq_true sB
  have z4 : 3 ≤ 3 * cap := by omega
  have z5 : ∀ n : Nat, (1 : Int) ≤ (n : Int) + 1 := fun n => by omega
  have z6 : B.length * 3 ≤ 3 * cap - (A.length + 1) * 3 := by omega
  have z7 : ∀ n : Nat, n + 1 - 1 = n := fun n => by omega
  have w2 : IntKind.i64.wrap 1 = 1 := IntWalk.i64_in _ (by omega)
  have z1 : ∀ n : Nat, (0 : Int) ≤ (n : Int) + 1 := fun n => by omega
  have z2 : ∀ n : Nat, ((n : Int) + 1).toNat = n + 1 := fun n => by omega
  have z3 : A.length + (B.length + 1) - (A.length + 1) = B.length := by omega
  have g1 : A.length * 40 ≤ 140737488355328 := by omega
  have g2 : A.length ≤ 4611686018427387904 := by omega
  have g3 : (A.length + B.length) * 40 ≤ 140737488355328 := by omega
  have g4 : A.length + B.length ≤ 4611686018427387904 := by omega
  have g5 : B.length * 40 ≤ 140737488355328 := by omega
  have g6 : B.length ≤ 4611686018427387904 := by omega
  have d1 : (A.length + 1) * 3 + B.length * 3 ≤ 3 * cap := by omega
  have d2 : ¬ (A.length + B.length ≤ A.length) ∨ B = [] := by
    cases B with
    | nil => exact .inr rfl
    | cons b B => left; simp
  have n1 : H.next + 1 ≠ H.next := by omega
  have gr : Grows H (H.push (.cells [])) := Grows.push hw _
  have fin : ∀ j x, H.get j = some x → ¬ j = H.next ∧ ¬ j = H.next + 1 ∧ ¬ j = H.next + 1 + 1 := fun j x hj => by have := old j x hj; omega
  have fin2 : ∀ j, j < H.next → ¬ j = H.next ∧ ¬ j = H.next + 1 ∧ ¬ j = H.next + 1 + 1 := fun j hj => by omega
  have grow : ∀ H' : AHeap, H.next ≤ H'.next → (∀ j, j < H.next → H'.get j = H.get j) → Grows H H' := fun H' g1 g2 => ⟨g1, fun j x hj => by rw [g2 j (old j x hj)]; exact hj, g2⟩
  by_cases a0 : A = []
  · subst a0
    by_cases b0 : B = []
    · subst b0
      by_cases hm : 1 < cap
      · simp [hlen, w1, h1, hc, c1, c2, h2, hcs, w2, z4, z5, z7, h6, hm, rds, heapF]
        refine ⟨by subst hes; exact ⟨by kernel_rfl, by kernel_rfl⟩, ?_⟩
        exact grow _ (by simp; try omega) fun j hj => by obtain ⟨q1, q2, q3⟩ := fin2 j hj; simp [q1, q2, q3]
      · cases op <;> simp [hlen, w1, h1, hc, c1, c2, h2, hcs, w2, z4, z5, z7, h6, hm, rds, heapF]
        all_goals
          refine ⟨by subst hes; exact ⟨by kernel_rfl, by kernel_rfl⟩, ?_⟩
          exact gr
    · have b1 : B.length ≠ 0 := by simpa using b0
      have hm : 1 < cap := by simp at hl; omega
      have e3 : List.take (B.length * 3) (List.drop 3 cs) = wcells B := by simpa using e2
      have d3 : 3 + B.length * 3 ≤ 3 * cap := by simp at d1; omega
      simp [hlen, w1, h1, hc, c1, c2, h2, hcs, e3, d3, sB', g5, g6, w2, z4, z5, z7, h6, hm, rds, heapF, b0, b1]
      refine ⟨by subst hes; exact ⟨by kernel_rfl, by kernel_rfl⟩, ?_⟩
      exact grow _ (by simp; try omega) fun j hj => by obtain ⟨q1, q2, q3⟩ := fin2 j hj; simp [q1, q2, q3]
  · have a1 : A.length ≠ 0 := by simpa using a0
    have t1 : List.take (A.length * 3) (wcells A) = wcells A := List.take_of_length_le (by simp)
    have t2 : List.drop (A.length * 3) (wcells A) = [] := List.drop_of_length_le (by simp)
    by_cases b0 : B = []
    · subst b0
      by_cases hm : A.length + 1 < cap
      · simp [hlen, w1, h1, hc, c1, c2, h2, hcs, e1, sA', h3, h4, g1, g2, z3, z4, z5, z7, h6, hm, a0, a1, rds, heapF, h7, z1, z2, t1, t2]
        refine ⟨by subst hes; exact ⟨by kernel_rfl, by kernel_rfl⟩, ?_⟩
        exact grow _ (by simp; try omega) fun j hj => by obtain ⟨q1, q2, q3⟩ := fin2 j hj; simp [q1, q2, q3]
      · cases op <;> simp [hlen, w1, h1, hc, c1, c2, h2, hcs, e1, sA', h3, h4, g1, g2, z3, z4, z5, z7, h6, hm, a0, a1, rds, heapF, h7, z1, z2, t1, t2]
        all_goals
          refine ⟨by subst hes; exact ⟨by kernel_rfl, by kernel_rfl⟩, ?_⟩
          exact grow _ (by simp; try omega) fun j hj => by obtain ⟨q1, q2, q3⟩ := fin2 j hj; simp [q1, q2, q3]
    · have b1 : B.length ≠ 0 := by simpa using b0
      have hm : A.length + 1 < cap := by omega
      have d3 := d2.resolve_right b0
      simp [hlen, w1, h1, hc, c1, c2, h2, hcs, e1, e2, sA', sB', d1, d3, g3, g4, h3, h4, g1, g2, z3, z4, z5, z7, h6, hm, a0, b0, a1, b1, rds, heapF, h7, z1, z2, t1, t2]
      refine ⟨by subst hes; exact ⟨by kernel_rfl, by kernel_rfl⟩, by omega, ?_⟩
      exact grow _ (by simp; try omega) fun j hj => by obtain ⟨q1, q2, q3⟩ := fin2 j hj; simp [q1, q2, q3]
end Go.Proofs
