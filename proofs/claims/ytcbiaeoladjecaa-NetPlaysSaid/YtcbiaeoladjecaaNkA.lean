import Derived.Test.YtcbiaeoladjecaaNkFacts
namespace Go.Proofs
open Go Go.Abs
set_option linter.unusedSimpArgs false
variable {G : Nat → Option AV}
theorem Try.mixed : Try.prog.follows .mixedOrders = true := by kernel_rfl

theorem clone_nil (H : AHeap) : Does Try.prog G 24 [.nilsl] H fun r H' => r = .nilsl ∧ H' = H := by
  refine does_f Try.call24 Try.func24 rfl (by simp) ?_
  simp
theorem len_spec (H : AHeap) (a b n c : Nat) (op : Bool) (h : H.get a = some (.cells [.sl b 0 3 n c op])) : Does Try.prog G 17 [.ptr a 0] H fun r H' => r = .int .i64 n ∧ H' = H := by
  refine does_f Try.call17 Try.func17 rfl (by simp [Try.f17]) ?_
  simp [h]
theorem clone_vsl (H : AHeap) (cs : List AV) (hc : ∀ x ∈ cs, x.scalar = true) (hl : cs.length ≤ 1000000) : Does Try.prog G 24 [.vsl cs cs.length] H fun r H' => 
   (cs = [] ∧ r = .sl H.next 0 1 0 0 false ∧ H' = H.push (.cells [])) ∨ (cs ≠ [] ∧ r = .sl (H.next + 1) 0 1 cs.length cs.length true ∧ H' = (H.push (.cells [])).push (.cells cs)) := by
  have : cs.length ≤ 140737488355328 := by omega
  have : cs.length ≤ 4611686018427387904 := by omega
  refine does_f Try.call24 Try.func24 rfl (by simp [Try.f24]) ?_
  by_cases h0 : cs = []
  · subst h0; simp
  · simp [*, if_pos hc]
theorem clone_sl (H : AHeap) (b c : Nat) (op : Bool) (cs : List AV) (hbn : b ≠ H.next) (hb : H.get b = some (.cells cs)) (hc : ∀ x ∈ cs, x.scalar = true) (hl : cs.length ≤ 1000000) : Does Try.prog G 24 [.sl b 0 1 cs.length c op] H fun r H' => 
   (cs = [] ∧ r = .sl H.next 0 1 0 0 false ∧ H' = H.push (.cells [])) ∨ (cs ≠ [] ∧ r = .sl (H.next + 1) 0 1 cs.length cs.length true ∧ H' = (H.push (.cells [])).push (.cells cs)) := by
  have : cs.length ≤ 140737488355328 := by omega
  have : cs.length ≤ 4611686018427387904 := by omega
  refine does_f Try.call24 Try.func24 rfl (by simp [Try.f24]) ?_
  by_cases h0 : cs = []
  · subst h0; simp [hb, hbn]
  · simp [*, if_pos hc]
/-- A slice of bytes and what it holds. -/
def Bts (H : AHeap) (x : AV) (cs : List AV) : Prop := (x = .nilsl ∧ cs = []) ∨ x = .vsl cs cs.length ∨ ∃ b c op, x = .sl b 0 1 cs.length c op ∧ H.get b = some (.cells cs)
/-- The same, frozen. -/
def fzb (x : AV) (cs : List AV) : AV := match x with
  | .nilsl => .nilsl
  | _ => .vsl cs cs.length

theorem clone_frozen (H : AHeap) (x : AV) (cs : List AV) (hx : Bts H x cs) (hc : ∀ x ∈ cs, x.scalar = true) (hl : cs.length ≤ 1000000) : Does Try.prog G 24 [x] H fun r H' => r = fzb x cs ∧ H' = H := by
  have key : ∀ x : AV, fzb x cs = .vsl cs cs.length → (H.Wf → AV.allLt H.next [x] = true → AV.allLt H.next cs = true) → Does Try.prog G 24 [x] H (fun r H' => (cs = [] ∧ r = .sl H.next 0 1 0 0 false ∧ H' = H.push (.cells [])) ∨ (cs ≠ [] ∧ r = .sl (H.next + 1) 0 1 cs.length cs.length true ∧ H' = (H.push (.cells [])).push (.cells cs))) →
      Does Try.prog G 24 [x] H fun r H' => r = fzb x cs ∧ H' = H := by
    intro x hf ha h
    refine h.frozen fun hw hargs r H1 hr => ?_
    have hlt := ha hw hargs
    rcases hr with ⟨h0, rfl, rfl⟩ | ⟨h0, rfl, rfl⟩
    · refine ⟨H.next, [], Nat.le_refl _, by simp, fun j y hj => ?_, by simp [AV.frz, AV.idLt, AV.allLt], by subst h0; simp [AV.frz, hf], rfl⟩
      have := next_lt hw hj
      simp [hj]; omega
    · refine ⟨H.next + 1, cs, by omega, by simp, fun j y hj => ?_, by simp [AV.frz, AV.idLt, hlt], by simp [AV.frz, hf], rfl⟩
      have := next_lt hw hj
      simp [hj]
      rw [if_neg (by omega), if_neg (by omega)]
  rcases hx with ⟨rfl, rfl⟩ | rfl | ⟨b, c, op, rfl, hb⟩
  · exact (clone_nil H).mono fun r H' ⟨h1, h2⟩ => ⟨h1, h2⟩
  · exact key _ rfl (fun _ h => by simpa [AV.allLt, AV.idLt] using h) (clone_vsl H cs hc hl)
  · refine Does.wf Try.call24 fun hw _ => key _ rfl (fun hw _ => (hw b _ hb).2) (clone_sl H b c op cs ?_ hb hc hl)
    have := next_lt hw hb
    omega

theorem Bts.mono {H H' : AHeap} {x : AV} {cs : List AV} (h : Bts H x cs) (hs : ∀ j x, H.get j = some x → H'.get j = some x) : Bts H' x cs := by
  rcases h with h | h | ⟨b, c, op, h, hb⟩
  · exact .inl h
  · exact .inr (.inl h)
  · exact .inr (.inr ⟨b, c, op, h, hs _ _ hb⟩)
theorem Bts.lt {H : AHeap} {x : AV} {cs : List AV} (h : Bts H x cs) (hw : H.Wf) (hx : x.idLt H.next = true) : AV.allLt H.next cs = true := by
  rcases h with ⟨rfl, rfl⟩ | rfl | ⟨b, c, op, rfl, hb⟩
  · rfl
  · simpa [AV.idLt] using hx
  · exact (hw _ _ hb).2
theorem fzb_lt {n : Nat} {x : AV} {cs : List AV} (h : AV.allLt n cs = true) : (fzb x cs).idLt n = true := by
  unfold fzb; split <;> simp [AV.idLt, h]
theorem fzb_or (x : AV) (cs : List AV) : fzb x cs = .nilsl ∨ fzb x cs = .vsl cs cs.length := by
  unfold fzb; split <;> simp

theorem copied_frozen (H : AHeap) (f t : Int) (x : AV) (cs : List AV) (hx : Bts H x cs) (hc : ∀ x ∈ cs, x.scalar = true) (hl : cs.length ≤ 1000000) :
    Does Try.prog G 23 [.agg [.int .i64 f, .int .i64 t, x]] H fun r H' => r = .agg [.int .i64 f, .int .i64 t, fzb x cs] ∧ H' = H := by
  refine Does.forgot (R := fun r H' => r = .agg [.int .i64 f, .int .i64 t, fzb x cs] ∧ ∀ j x, H.get j = some x → H'.get j = some x) ?_ ?_
  · refine Does.wf Try.call23 fun hw _ => ?_
    have old : ∀ j x, H.get j = some x → j ≠ H.next ∧ j ≠ H.next + 1 := fun j x hj => by have := next_lt hw hj; omega
    refine does_f Try.call23 Try.func23 rfl (by simp [Try.f23]) ?_
    have hsx : x.scalar = true := by rcases hx with ⟨rfl, _⟩ | rfl | ⟨b, c, op, rfl, _⟩ <;> rfl
    simp [hsx]
    refine does_use (clone_frozen _ x cs ?_ hc hl) ?_
    · refine hx.mono fun j x hj => ?_
      simp [hj, old j x hj]
    rintro _ _ ⟨rfl, rfl⟩
    rcases fzb_or x cs with e | e <;> rw [e] <;> simp <;> intro j x hj <;> simp [hj, old j x hj]
  · rintro hw ha r H1 ⟨rfl, h⟩
    refine ⟨h, ?_, rfl, rfl⟩
    have := fzb_lt (x := x) (hx.lt hw (by simpa [AV.allLt, AV.idLt] using ha))
    simp [AV.idLt, AV.allLt, this]

theorem del_drop {A B C D : List AV} {k m : Nat} (hA : A.length = k * 3) (hB : B.length = 3) (hC : C.length = m * 3) : List.drop (k * 3 + m * 3 + 3) (A ++ (B ++ (C ++ D))) = D := by
  rw [← List.append_assoc, ← List.append_assoc, List.drop_left']
  simp; omega
theorem del_mid {A B C D : List AV} {k m : Nat} (hA : A.length = k * 3) (hB : B.length = 3) (hC : C.length = m * 3) : List.take (m * 3) (List.drop ((k + 1) * 3) (A ++ (B ++ (C ++ D)))) = C := by
  rw [← List.append_assoc, List.drop_left' (by simp; omega), List.take_left' hC]

theorem delete_spec (H : AHeap) (b c k m n : Nat) (op : Bool) (A B C D : List AV) (hb : H.get b = some (.cells (A ++ (B ++ (C ++ D))))) (hA : A.length = k * 3) (hB : B.length = 3) (hC : C.length = m * 3) (hs : ∀ x ∈ C, x.scalar = true)
    (hn : n = k + 1 + m) (hc : c < 1000000) (hl : k * 3 + 3 + m * 3 + D.length = 3 * c) :
    Does Try.prog G 20 [.sl b 0 3 n c op, .int .i64 k, .int .i64 (k + 1)] H fun r H' => r = .sl b 0 3 (k + m) c op ∧ H' = H.set b (.cells (A ++ (C ++ ([.int .i64 0, .int .i64 0, .nilsl] ++ D)))) := by
  refine does_f Try.call20 Try.func20 rfl (by simp [Try.f20]) ?_
  have f0 : n ≤ c := by omega
  have f1 : (0:Int) ≤ k + 1 := by omega
  have f2 : (k:Int) + 1 ≤ n := by omega
  have f3 : ¬ ((k:Int) = k + 1) := by omega
  have f9 : (k : Int) ≤ k + 1 := by omega
  have f14 : k < n := by omega
  simp [hb, f0, f1, f2, f3, f9, f14]
  refine aw_drawn [] ?_ ?_ ?_
  · exact Try.mixed
  · kernel_rfl
  intro es hes
  have f4 : k ≤ c := by omega
  have f5 : k ≤ n := by omega
  have f6 : k + 1 ≤ n := by omega
  have f7 : (k : Int) ≤ n := by omega
  have f8 : (k : Int) ≤ c := by omega
  have f10 : 0 < c := by omega
  have f11 : k + m ≤ c := by omega
  have f15 : n - (k + 1) = m := by omega
  have f16 : (k + m) * 3 ≤ 3 * c := by omega
  have lk : (A ++ (B ++ (C ++ D))).length = 3 * c := by simp; omega
  have e1 := del_mid (D := D) hA hB hC
  generalize hcs : A ++ (B ++ (C ++ D)) = cs at hb lk e1
  have f17 : (0:Int) ≤ (k:Int) + m := by omega
  have f18 : (k:Int) + m ≤ n := by omega
  have f19 : ((k:Int) + m).toNat = k + m := by omega
  have f20 : k + m < c := by omega
  have f21 : n - (k + m) = 1 := by omega
  have f22 : (k + m) * 3 + 3 ≤ 3 * c := by omega
  have e2 : List.take (k * 3) cs = A := by rw [← hcs, List.take_left' hA]
  have e3 : ∀ X : List AV, List.take ((k + m) * 3) (A ++ (C ++ X)) = A ++ C := fun X => by rw [← List.append_assoc, List.take_left' (by simp; omega)]
  have e4 : List.drop ((k + m) * 3 + 3) (A ++ (C ++ List.drop (k * 3 + m * 3) cs)) = D := by
    rw [← List.append_assoc, ← List.drop_drop, List.drop_left' (by simp; omega), List.drop_drop, ← hcs]
    rw [← List.append_assoc, ← List.append_assoc, List.drop_left' (by simp; omega)]
  by_cases g : k + 1 < c
  · have f13 : (k + 1) * 3 + m * 3 ≤ 3 * c := by omega
    simp [hb, f0, f1, f2, f3, f9, f14, f4, f5, f6, f7, f8, f10, f11, f15, f16, lk, e1, e2, e3, e4, g, f13, hC, if_pos hs, f17, f18, f19, f20, f21, f22, rds]
    have f26 : (k + m) * 3 + 3 ≤ A.length + (m * 3 + (3 * c - (k * 3 + m * 3))) := by omega
    rw [if_pos f26]
    simp
    subst hes
    constructor
    · kernel_rfl
    · kernel_rfl
  · have hm : m = 0 := by omega
    subst hm
    have hC' : C = [] := List.length_eq_zero_iff.1 (by simpa using hC)
    subst hC'
    simp only [Nat.add_zero, Nat.zero_mul, List.nil_append, List.append_nil, Nat.zero_add] at *
    have f24 : k * 3 ≤ 3 * c := by omega
    have f25 : (k:Int) + 0 = k := by omega
    cases op
    · simp [hb, f0, f1, f2, f3, f9, f14, f4, f5, f6, f7, f8, f10, f11, f15, f16, lk, e1, e2, e3, e4, g, f17, f18, f19, f20, f21, f22, rds, f24, f25]
      have f26 : k * 3 + 3 ≤ A.length + (3 * c - k * 3) := by omega
      rw [if_pos f26]
      simp
      subst hes
      constructor
      · kernel_rfl
      · kernel_rfl
    · simp [hb, f0, f1, f2, f3, f9, f14, f4, f5, f6, f7, f8, f10, f11, f15, f16, lk, e1, e2, e3, e4, g, f17, f18, f19, f20, f21, f22, rds, f24, f25]
      have f26 : k * 3 + 3 ≤ A.length + (3 * c - k * 3) := by omega
      rw [if_pos f26]
      simp
      subst hes
      constructor
      · kernel_rfl
      · kernel_rfl
end Go.Proofs
