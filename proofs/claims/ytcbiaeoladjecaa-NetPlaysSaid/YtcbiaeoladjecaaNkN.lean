import Derived.Test.YtcbiaeoladjecaaNkM
namespace Go.Proofs
open Go Go.Abs
set_option linter.unusedSimpArgs false

theorem abytes_b8 : ∀ bs : List UInt8, abytes (b8 bs) = some bs
  | [] => rfl
  | c :: bs => by
    have ih := abytes_b8 bs
    unfold b8 at ih ⊢
    simp [abytes, ih]

theorem NetAt.set {H : AHeap} {a b : Nat} {ps : List Pk} (h : NetAt H a b ps) {i : Nat} (x : AObj) (ha : i ≠ a) (hb : i ≠ b) : NetAt (H.set i x) a b ps := by
  obtain ⟨l, hl, h⟩ := h
  refine ⟨l, by rw [AHeap.get_set, if_neg (Ne.symm ha)]; exact hl, ?_⟩
  rcases h with h | ⟨c, op, junk, rfl, hne, hb', hc⟩
  · exact .inl h
  · exact .inr ⟨c, op, junk, rfl, hne, by rw [AHeap.get_set, if_neg (Ne.symm hb)]; exact hb', hc⟩

theorem NetAt.lt {H : AHeap} {a b : Nat} {ps : List Pk} (h : NetAt H a b ps) (hw : H.Wf) : a < H.next ∧ b < H.next := by
  obtain ⟨l, hl, h⟩ := h
  have := next_lt hw hl
  rcases h with ⟨_, _, rfl⟩ | ⟨c, op, junk, rfl, hne, hb', hc⟩
  · exact ⟨this, this⟩
  · exact ⟨this, next_lt hw hb'⟩

theorem new_vsl (H : AHeap) (bs : List UInt8) : Does Try.prog (fun _ => none) 7 [.vsl (b8 bs) bs.length] H fun r _ => r = .bool true := by
  refine does_f Try.call7 Try.func7 rfl (by simp [Try.f7]) ?_
  simp
  refine does_use (awake_any _) ?_
  rintro _ H0 ⟨rfl, rfl⟩
  simp
  by_cases c1 : (bs.length : Int) < 1
  · rw [decide_eq_true c1]; simp
  rw [decide_eq_false c1]; simp
  refine condV_dec (fun c2 => ?_) (fun c2 => ?_)
  · simp
  have c1' : 1 ≤ bs.length := by omega
  have c2' : bs.length ≤ 200 := by omega
  simp
  refine does_usew (new_spec _) ?_
  rintro _ _ ⟨rfl, rfl⟩ hw0 _
  generalize ha : H0.next = a
  have m1 : bs.length ≠ 0 := by omega
  have m2 : bs.length ≤ 140737488355328 := by omega
  have m3 : bs.length ≤ 4611686018427387904 := by omega
  have m4 : bs ≠ [] := fun h => by simp [h] at m1
  have tk : List.take bs.length (b8 bs) = b8 bs := by rw [← b8_length bs, List.take_length]
  simp [m1, m2, m3, m4, tk, if_pos (b8_scalar bs)]
  have w1 : ((H0.push (.cells [.nilsl])).push (.cells [])).Wf ∨ True := .inr trivial
  have hnet : NetAt (((H0.push (.cells [.nilsl])).push (.cells [])).push (.cells (b8 bs))) a a [] :=
    ⟨.nilsl, by have : H0.next ≠ H0.next + 1 + 1 := by omega
                simp [← ha, this], .inl ⟨rfl, rfl, rfl⟩⟩
  refine does_usew (send_small _ a a [] 0 0 (.sl (H0.next + 1 + 1) 0 1 bs.length bs.length true) bs ⟨0, 0, some bs⟩ hnet (by simp) (.inr (.inr ⟨H0.next + 1 + 1, bs.length, true, by simp, by simp⟩)) (by omega) (by simp [Pk.cells, pkb, fzb])) ?_
  rintro _ H1 ⟨rfl, b1, hn1, k1⟩ hw1 _
  have hc : H1.get (H0.next + 1 + 1) = some (.cells (b8 bs)) := by
    rw [k1.2.2 _ (by simp) (by omega) (by omega)]; simp
  have m5 : 0 < bs.length := by omega
  obtain ⟨x0, xs0, rfl⟩ : ∃ x0 xs0, bs = x0 :: xs0 := by
    cases bs with
    | nil => simp at m4
    | cons x y => exact ⟨x, y, rfl⟩
  have hb8 : b8 (x0 :: xs0) = .int .u8 x0.toNat :: b8 xs0 := rfl
  simp [hc, m5, hb8]
  have hb1 : H0.next + 1 + 1 ≠ b1 := by
    rcases k1.2.1 with h | h
    · omega
    · simp at h; omega
  have hn1' := hn1.set (i := H0.next + 1 + 1) (.cells (AV.int IntKind.u8 (IntKind.u8.wrap ↑(x0.toNat % 2 ^ IntKind.u8.bits ^^^ 255 % 2 ^ IntKind.u8.bits)) :: b8 xs0)) (by omega) hb1
  have hl1 : ((some (x0 :: xs0)).getD []).length ≤ 1000000 := by simp at c2'; simp; omega
  refine does_usew (double_some _ a b1 [] [] ⟨0, 0, some (x0 :: xs0)⟩ 0 hn1' rfl (by simp) hl1) ?_
  rintro _ H2 ⟨rfl, b2, hn2, k2⟩ hw2 _
  simp
  refine does_usew (deliver_live H2 a b2 [] [⟨0, 0, some (x0 :: xs0)⟩] ⟨0, 0, some (x0 :: xs0)⟩ 0 hn2 rfl hl1) ?_
  rintro _ H3 ⟨y, rfl, hy, hn3, k3⟩ hw3 _
  rcases hy with ⟨h, _⟩ | ⟨bs, i, c, op, h1, rfl, h3, h4, h5⟩
  · simp at h
  simp only [Option.some.injEq] at h1
  subst h1
  have i3 := next_lt hw3 h4
  have i4 : i ≠ H3.next := by omega
  have hle := abytes_b8 (x0 :: xs0)
  have tk' : List.take (xs0.length + 1) (b8 (x0 :: xs0)) = b8 (x0 :: xs0) := by simpa using tk
  simp [h4, i4, hle, tk']
  refine aw_drawn [(1, 0), (3, 0), (5, 0)] ?_ ?_ ?_
  · exact Try.mixed
  · kernel_rfl
  intro es hes
  have hb8' := hb8
  simp [h4, i4, hle, tk', hb8', rds, heapF]
  refine ⟨by subst hes; exact ⟨by kernel_rfl, by kernel_rfl⟩, ?_⟩
  clear hes
  obtain ⟨ha2, hb2⟩ := hn2.lt hw2
  have ia : i ≠ a := by omega
  have ib : i ≠ b2 := by omega
  have hn3' := (hn3.push hw3 (.cells [AV.int .i64 0, AV.int .i64 0, AV.sl i 0 1 (xs0.length + 1) c op])).set (i := i) (.cells (AV.int IntKind.u8 (IntKind.u8.wrap ↑(x0.toNat % 2 ^ IntKind.u8.bits ^^^ 255 % 2 ^ IntKind.u8.bits)) :: b8 xs0)) ia ib
  refine does_usew (deliver_live _ a b2 [] [] ⟨0, 0, some (x0 :: xs0)⟩ 0 hn3' rfl hl1) ?_
  rintro _ H4 ⟨y, rfl, hy, hn4, k4⟩ hw4 _
  rcases hy with ⟨h, _⟩ | ⟨bs, i', c', op', h1, rfl, h3', h4', h5'⟩
  · simp at h
  simp only [Option.some.injEq] at h1
  subst h1
  have i3' := next_lt hw4 h4'
  have i4' : i' ≠ H4.next := by omega
  simp [h4', i4', hle, tk']

theorem new_nil (H : AHeap) : Does Try.prog (fun _ => none) 7 [.nilsl] H fun r _ => r = .bool true := by
  refine does_f Try.call7 Try.func7 rfl (by simp [Try.f7]) ?_
  simp
  refine does_use (awake_any _) ?_
  rintro _ H0 ⟨rfl, rfl⟩
  simp

theorem bytes_of_shp : ∀ {es : List (List AV)}, (∀ x ∈ es, ∃ m : Int, x = [AV.int .u8 m] ∧ (Lit.int .u8 m).wf = true) → ∃ bs : List UInt8, es.flatten = b8 bs ∧ bs.length = es.length
  | [], _ => ⟨[], rfl, rfl⟩
  | x :: es, h => by
    obtain ⟨m, rfl, hm⟩ := h x (by simp)
    obtain ⟨bs, h1, h2⟩ := bytes_of_shp (es := es) fun y hy => h y (by simp [hy])
    refine ⟨UInt8.ofNat m.toNat :: bs, ?_, by simp [h2]⟩
    have hr : 0 ≤ m ∧ m < 256 := by
      simp [Lit.wf, IntKind.min, IntKind.max, IntKind.bits, IntKind.signed] at hm
      omega
    have : ((UInt8.ofNat m.toNat).toNat : Int) = m := by
      simp
      omega
    show AV.int .u8 m :: es.flatten = .int .u8 ((UInt8.ofNat m.toNat).toNat : Int) :: b8 bs
    rw [this, h1]
theorem new_any (H : AHeap) (a : AV) (h : Shp Try.prog 8 25 [a]) : Does Try.prog (fun _ => none) 7 [a] H fun r _ => r = .bool true := by
  unfold Shp at h
  rw [Try.underlying25] at h
  simp only [List.cons.injEq, and_true] at h
  rcases h with rfl | ⟨es, rfl, _, h⟩
  · exact new_nil H
  · have : ∀ x ∈ es, ∃ m : Int, x = [AV.int .u8 m] ∧ (Lit.int .u8 m).wf = true := fun x hx => by
      have := h x hx
      unfold Shp at this
      rw [Try.underlying5] at this
      exact this
    obtain ⟨bs, h1, h2⟩ := bytes_of_shp this
    rw [h1, ← h2]
    exact new_vsl H bs
end Go.Proofs
