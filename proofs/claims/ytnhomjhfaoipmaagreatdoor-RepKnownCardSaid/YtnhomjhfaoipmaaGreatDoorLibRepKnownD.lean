/-
  Own library of this claim, part 4: texts one behind the other (LxW8, SyP1, SyP2, SyP3, SyP4, SyP5, SyP6, SyP7, SyP8, SyP9, SyP10, SyP11, SyP12, SyP13, SyP14, SyP15, SyP16, SyP17, SyP18, LxE, LxO, SyB, SyO, SyG).
-/
import Derived.Test.YtnhomjhfaoipmaaGreatDoorLibRepKnownC

namespace Go.Proofs.YtnhomjhfaoipmaaGreatDoor
open Go Go.Abs Go.Lex
set_option linter.unusedSimpArgs false
variable {G : Nat → Option AV}
def flatW : List (Nat × Wd) → List AV
  | [] => []
  | (i, w) :: l => wdCells w i ++ flatW l
theorem flatW_append (a b : List (Nat × Wd)) : flatW (a ++ b) = flatW a ++ flatW b := by
  induction a with
  | nil => rfl
  | cons x a ih => obtain ⟨i, w⟩ := x; simp [flatW, ih]
@[simp] theorem wdCells_length (w : Wd) (i : Nat) : (wdCells w i).length = 4 := rfl
@[simp] theorem flatW_length (l : List (Nat × Wd)) : (flatW l).length = l.length * 4 := by
  induction l with
  | nil => rfl
  | cons x l ih => obtain ⟨i, w⟩ := x; simp [flatW, ih]; omega
def cutAns (t : Bs) : AV := if 16384 < t.length then .tuple [.nilsl, .agg [.int .i64 2, .int .i64 t.length]] else match cutS t.length t with
  | .ok l => .tuple [.vsl (flatW l ++ [.int .i64 0, .str [], .int .i64 0, .int .i64 t.length]) (l.length + 1), .agg [.int .i64 0, .int .i64 0]]
  | .error e => .tuple [.nilsl, .agg [.int .i64 7, .int .i64 e]]
def Wrds (H : AHeap) (lo : Nat) (x : AV) (ws : List (Nat × Wd)) : Prop := (x = .nilsl ∧ ws = []) ∨ ∃ b, x = .sl b 0 4 ws.length ws.length true ∧ lo ≤ b ∧ H.get b = some (.cells (flatW ws))
def CutR (H : AHeap) (t : Bs) (r : AV) (H1 : AHeap) : Prop := (∀ j x, H.get j = some x → H1.get j = some x) ∧
  (if 16384 < t.length then r = .tuple [.nilsl, .agg [.int .i64 2, .int .i64 t.length]] else match cutS t.length t with
  | .ok l => ∃ b, H.next ≤ b ∧ r = .tuple [.sl b 0 4 (l.length + 1) (l.length + 1) true, .agg [.int .i64 0, .int .i64 0]] ∧ H1.get b = some (.cells (flatW l ++ [.int .i64 0, .str [], .int .i64 0, .int .i64 t.length]))
  | .error e => r = .tuple [.nilsl, .agg [.int .i64 7, .int .i64 e]])
theorem CutR.okEnd {H : AHeap} {t : Bs} {ws : List (Nat × Wd)} {H2 : AHeap} {b : Nat} (hL : ¬ 16384 < t.length) (hc : cutS t.length t = .ok ws) (hb : H.next ≤ b)
    (hg : H2.get b = some (.cells (flatW ws ++ [.int .i64 0, .str [], .int .i64 0, .int .i64 t.length]))) (hk : ∀ j x, H.get j = some x → H2.get j = some x) :
    CutR H t (.tuple [.sl b 0 4 (ws.length + 1) (ws.length + 1) true, .agg [.int .i64 0, .int .i64 0]]) H2 := by
  refine ⟨hk, ?_⟩
  rw [if_neg hL, hc]
  exact ⟨b, hb, rfl, hg⟩
theorem CutR.badEnd {H : AHeap} {t : Bs} {e : Nat} {H2 : AHeap} (hL : ¬ 16384 < t.length) (hc : cutS t.length t = .error e) (hk : ∀ j x, H.get j = some x → H2.get j = some x) :
    CutR H t (.tuple [.nilsl, .agg [.int .i64 7, .int .i64 e]]) H2 := by
  refine ⟨hk, ?_⟩
  rw [if_neg hL, hc]
set_option maxRecDepth 100000 in
theorem cut_live (t : Bs) (hG : HasErr G) (H : AHeap) (hbig : t.length < 9223372036854775808) : Does Tryz.prog G 148 [.str t] H (CutR H t) := by
  refine Does.wf Tryz.call148 fun hw _ => ?_
  have old : ∀ j x, H.get j = some x → j < H.next := fun j x hj => next_lt hw hj
  refine does_f Tryz.call148 Tryz.func148 rfl (by simp [Tryz.f148]) ?_
  by_cases hL : 16384 < t.length
  · have hL' : (16384 : Int) < t.length := by omega
    simp [hL']
    refine ⟨fun j x hj => ?_, by simp [hL]⟩
    have := old j x hj
    have h1 : j ≠ H.next := by omega
    simp [hj, h1]
  · have hL' : ¬ (16384 : Int) < t.length := by omega
    simp [hL']
    refine does_use (between_does t (by omega) _) ?_
    rintro _ _ ⟨⟨n, rfl, hn, hbn⟩, rfl⟩
    simp
    refine aws_loopw (fun m T' H' => ∃ (ws : List (Nat × Wd)) (rest : Bs) (n : Nat), cutS t.length t = aheadW ws (cutS t.length rest) ∧ n ≤ t.length ∧ t.drop n = betw rest ∧ m = t.length - n ∧ ws.length ≤ n ∧
      T' 0 = .str t ∧ T' 3 = .ptr H.next 0 ∧ T' 5 = .int .i64 n ∧ Wrds H' (H.next + 1) (T' 4) ws ∧ H'.get H.next = some (.cells [.int .i64 0, .int .i64 0]) ∧ (∀ j x, H.get j = some x → H'.get j = some x)) (t.length - n) ?_ ?_
    · refine ⟨[], t, n, ?_, hn, hbn, rfl, by simp, by simp, by simp, by simp, .inl ⟨by simp, rfl⟩, by simp, fun j x hj => ?_⟩
      · cases cutS t.length t <;> rfl
      · have := old j x hj
        have h1 : j ≠ H.next := by omega
        simp [hj, h1]
    rintro m T H1 ⟨ws, rest, n, hcut, hn, hbn, rfl, hws, h0, h3, h5, h4, hf, hkeep⟩ hw1 _
    have oldn : ∀ j x, H1.get j = some x → j < H1.next := fun j x hj => next_lt hw1 hj
    have hfn := oldn _ _ hf
    have hne : H.next ≠ H1.next := by omega
    have hne2 : H.next ≠ H1.next + 1 := by omega
    have hne3 : H.next ≠ H1.next + 1 + 1 := by omega
    have hgrow : ¬ (ws.length + 1 ≤ ws.length) := by omega
    have hws' : ws.length ≤ 16384 := by omega
    by_cases hend : n = t.length
    · subst hend
      have hnil : betw rest = [] := by rw [← hbn]; simp
      have hc : cutS t.length t = .ok ws := by rw [hcut, cutS_end hnil]; simp [aheadW]
      have hfin : ∀ j x, H.get j = some x → H1.get j = some x ∧ j ≠ H.next ∧ j ≠ H1.next ∧ j ≠ H1.next + 1 := fun j x hj => by
        have := old j x hj
        have := oldn j x (hkeep j x hj)
        exact ⟨hkeep j x hj, by omega, by omega, by omega⟩
      rcases h4 with ⟨h4, rfl⟩ | ⟨b, h4, hlo, hb⟩
      · simp [h0, h3, h4, h5, hf, hne, hne2, hne3]
        refine CutR.okEnd hL hc (by omega) (by simp [flatW, Ne.symm hne2]) fun j x hj => ?_
        obtain ⟨k1, k2, k3, k4⟩ := hfin j x hj
        simp [k1, k2, k3, k4]
      · have hbn' := oldn _ _ hb
        have hb1 : b ≠ H1.next := by omega
        have hb2 : H.next ≠ b := by omega
        have hl1 : (ws.length + 1) * 40 ≤ 140737488355328 := by omega
        have hl2 : ws.length ≤ 4611686018427387903 := by omega
        simp [h0, h3, h4, h5, hf, hne, hne2, hne3, hb, hb1, hb2, hgrow, hl1, hl2]
        have htk : List.take (ws.length * 4) (flatW ws) = flatW ws := by rw [List.take_of_length_le]; simp
        rw [htk]
        refine CutR.okEnd hL hc (by omega) (by simp [Ne.symm hne2]) fun j x hj => ?_
        obtain ⟨k1, k2, k3, k4⟩ := hfin j x hj
        have := old j x hj
        have k5 : j ≠ b := by omega
        simp [k1, k2, k3, k4, k5]
    · have hlt : (n : Int) < t.length := by omega
      have hn' : (n : Int) ≤ t.length := by omega
      obtain ⟨c, q, hcq⟩ : ∃ c q, t.drop n = c :: q := by
        cases h : t.drop n with
        | nil => rw [List.drop_eq_nil_iff] at h; omega
        | cons c q => exact ⟨c, q, rfl⟩
      have hlen : (c :: q).length = t.length - n := by rw [← hcq]; simp
      rw [hcq] at hbn
      have htk0 : List.take (t.length - n) (c :: q) = c :: q := by rw [List.take_of_length_le]; omega
      simp [h0, h3, h4, h5, hf, hlt, hn, hn', hcq, htk0]
      refine does_use (word_does c q (by omega) hG _) ?_
      rintro r H2 ⟨hr, e⟩
      subst e
      have hkeep2 : ∀ j x, H.get j = some x → H2.get j = some x ∧ j ≠ H.next ∧ j ≠ H2.next ∧ j ≠ H2.next + 1 ∧ j ≠ H2.next + 1 + 1 := fun j x hj => by
        have := old j x hj
        have := oldn j x (hkeep j x hj)
        exact ⟨hkeep j x hj, by omega, by omega, by omega, by omega⟩
      unfold WordIs at hr
      cases hwd : wordS (c :: q) with
      | none =>
        rw [hwd] at hr
        simp only at hr
        obtain ⟨k, tx, nn, rfl⟩ := hr
        have hc : cutS t.length t = .error n := by
          rw [hcut, cutS_bad hbn.symm hwd, hlen]
          simp only [aheadW]
          congr 1
          omega
        simp [h0, h3, h4, h5, hf, hne]
        refine CutR.badEnd hL hc fun j x hj => ?_
        obtain ⟨k1, k2, k3, k4, k5⟩ := hkeep2 j x hj
        simp [k1, k2, k3]
      | some w =>
        rw [hwd] at hr
        simp only at hr
        subst hr
        obtain ⟨hpre, htne⟩ := wordS_text hwd
        have hwl : w.text.length ≤ (c :: q).length := hpre.length_le
        have hwl0 : w.text.length ≠ 0 := by simpa using htne
        rw [hlen] at hwl
        have hw1 : IntKind.i64.wrap ((n : Int) + w.text.length) = ((n + w.text.length : Nat) : Int) := by rw [IntWalk.i64_in _ (by omega)]; omega
        have hn2 : ((n + w.text.length : Nat) : Int) ≤ t.length := by omega
        have hn3 : n + w.text.length ≤ t.length := by omega
        have hrest : t.drop (n + w.text.length) = (c :: q).drop w.text.length := by rw [← List.drop_drop, hcq]
        obtain ⟨n2, hn2'⟩ : ∃ n2, n2 = n + w.text.length := ⟨_, rfl⟩
        rw [← hn2'] at hw1 hn2 hn3 hrest
        have hcut2 : cutS t.length t = aheadW (ws ++ [(n, w)]) (cutS t.length (t.drop n2)) := by
          rw [hcut, cutS_word hbn.symm hwd, hrest, hlen]
          have e : t.length - (t.length - n) = n := by omega
          rw [e]
          cases cutS t.length ((c :: q).drop w.text.length) <;> simp [aheadW]
        rcases h4 with ⟨h4, rfl⟩ | ⟨b, h4, hlo, hb⟩
        · simp [h0, h3, h4, h5, hf, hne, hne2, hne3, wdCells, hw1, hn2, hn3]
          refine does_use (between_does (t.drop n2) (by simp; omega) _) ?_
          rintro _ _ ⟨⟨k, rfl, hk, hk2⟩, rfl⟩
          simp only [List.length_drop] at hk
          have hw2 : IntKind.i64.wrap ((n2 : Int) + k) = ((n2 + k : Nat) : Int) := by rw [IntWalk.i64_in _ (by omega)]; omega
          simp [h0, h3, h4, h5, hf, hne, hne2, hne3, hw2]
          refine ⟨t.length - (n2 + k), by omega, [(n, w)], t.drop n2, by simpa using hcut2, n2 + k, by omega, by rw [← List.drop_drop]; exact hk2, rfl, by simp; omega, by omega, .inr ⟨H2.next + 1 + 1, rfl, by omega, by simp [flatW, wdCells]⟩, fun j x hj => ?_⟩
          obtain ⟨k1, k2, k3, k4, k5⟩ := hkeep2 j x hj
          simp [k1, k3, k4, k5]
        · have hbn' := oldn _ _ hb
          have hb1 : b ≠ H2.next := by omega
          have hb2 : H.next ≠ b := by omega
          have hb3 : b ≠ H2.next + 1 := by omega
          have hl1 : (ws.length + 1) * 40 ≤ 140737488355328 := by omega
          have hl2 : ws.length ≤ 4611686018427387903 := by omega
          have hb4 : H2.next ≠ b := Ne.symm hb1
          have hb5 : H2.next ≠ H2.next + 1 + 1 := by omega
          have htk : List.take (ws.length * 4) (flatW ws) = flatW ws := by rw [List.take_of_length_le]; simp
          simp [h0, h3, h4, h5, hf, hne, hne2, hne3, wdCells, hw1, hn2, hn3, hb, hb1, hb2, hb3, hb4, hb5, hgrow, hl1, hl2, htk]
          refine does_use (between_does (t.drop n2) (by simp; omega) _) ?_
          rintro _ _ ⟨⟨k, rfl, hk, hk2⟩, rfl⟩
          simp only [List.length_drop] at hk
          have hw2 : IntKind.i64.wrap ((n2 : Int) + k) = ((n2 + k : Nat) : Int) := by rw [IntWalk.i64_in _ (by omega)]; omega
          simp [h0, h3, h4, h5, hf, hne, hne2, hne3, hw2]
          refine ⟨t.length - (n2 + k), by omega, ws ++ [(n, w)], t.drop n2, hcut2, n2 + k, by omega, by rw [← List.drop_drop]; exact hk2, rfl, by simp; omega, by omega, .inr ⟨H2.next + 1 + 1, by simp, by omega, by simp [flatW_append, flatW, wdCells]⟩, hb2, fun j x hj => ?_⟩
          obtain ⟨k1, k2, k3, k4, k5⟩ := hkeep2 j x hj
          have := old j x hj
          have k6 : j ≠ b := by omega
          simp [k1, k3, k4, k5, k6]
theorem flatW_lt (n : Nat) : ∀ l : List (Nat × Wd), AV.allLt n (flatW l) = true
  | [] => rfl
  | (i, w) :: l => by simp [flatW, wdCells, AV.allLt, AV.idLt, flatW_lt n l]
theorem allLt_app (n : Nat) (a b : List AV) : AV.allLt n (a ++ b) = (AV.allLt n a && AV.allLt n b) := AV.allLt_append a b
theorem cut_does (t : Bs) (hG : HasErr G) (H : AHeap) (hbig : t.length < 9223372036854775808) : Does Tryz.prog G 148 [.str t] H fun r H' => r = cutAns t ∧ H' = H := by
  by_cases hL : 16384 < t.length
  · refine Does.forgot (cut_live t hG H hbig) ?_
    rintro hw ha r H1 ⟨hk, hr⟩
    rw [if_pos hL] at hr
    subst hr
    exact ⟨hk, rfl, by simp [cutAns, hL], rfl⟩
  · cases hc : cutS t.length t with
    | error e =>
      refine Does.forgot (cut_live t hG H hbig) ?_
      rintro hw ha r H1 ⟨hk, hr⟩
      rw [if_neg hL, hc] at hr
      simp only at hr
      subst hr
      exact ⟨hk, rfl, by simp [cutAns, hL, hc], rfl⟩
    | ok l =>
      refine Does.frozen (cut_live t hG H hbig) ?_
      rintro hw ha r H1 ⟨hk, hr⟩
      rw [if_neg hL, hc] at hr
      obtain ⟨b, hb, rfl, hg⟩ := hr
      refine ⟨b, _, hb, hg, hk, ?_, ?_, rfl⟩
      · simp [AV.frz, AV.frzs, AV.idLt, AV.allLt]
        rw [List.take_of_length_le (by simp; omega)]
        simp [allLt_app, flatW_lt, AV.allLt, AV.idLt]
      · simp [AV.frz, AV.frzs, cutAns, hL, hc]
        rw [List.take_of_length_le (by simp; omega)]
end Go.Proofs.YtnhomjhfaoipmaaGreatDoor

namespace Go.Proofs.YtnhomjhfaoipmaaGreatDoor
open Go Go.Abs Go.Lex
set_option linter.unusedSimpArgs false
variable {G : Nat → Option AV}
mutual
def exCells : Syn.Ex → List AV
  | .mk op nm n p ks => [.str op, .str nm, .int .i64 n, .int .i64 p, if ks.isEmpty then .nilsl else .vsl (exsCells ks) ks.length]
def exsCells : List Syn.Ex → List AV
  | [] => []
  | e :: l => exCells e ++ exsCells l
end
def stCells (W : Syn.Ws) (s : Syn.St) : List AV := [.vsl (flatW W) W.length, .int .i64 s.i, .int .i64 s.names, .int .i64 s.parts, .int .i64 s.err, .int .i64 s.pos]
def PAt (H : AHeap) (p : Nat) (W : Syn.Ws) (s : Syn.St) : Prop := H.get p = some (.cells (stCells W s))
structure WsOk (W : Syn.Ws) : Prop where
  small : W.length ≤ 20000
  last : ∀ i, i < W.length → (W.getD i (0, ⟨0, [], 0⟩)).2.kind ≠ 0 → i + 1 < W.length
theorem flatW_at : ∀ (L : List (Nat × Wd)) (i : Nat), i < L.length → (flatW L).drop (i * 4) = wdCells (L.getD i (0, ⟨0, [], 0⟩)).2 (L.getD i (0, ⟨0, [], 0⟩)).1 ++ flatW (L.drop (i + 1))
  | [], i, h => by simp at h
  | (a, b) :: L, 0, _ => by simp [flatW]
  | (a, b) :: L, i + 1, h => by
    have := flatW_at L i (by simpa using h)
    rw [Nat.succ_mul]
    simp only [flatW, List.drop_succ_cons, List.getD_cons_succ]
    rw [← this, Nat.add_comm (i * 4) 4, ← List.drop_drop]
    rw [List.drop_left' (by simp)]
theorem set_same {H : AHeap} {p : Nat} {x : AObj} (h : H.get p = some x) : H.set p x = H := by
  refine AHeap.ext' rfl fun i => ?_
  simp only [AHeap.get_set]
  split
  · rename_i e; subst e; exact h.symm
  · rfl
set_option maxRecDepth 100000 in
theorem p_ok {W : Syn.Ws} {s : Syn.St} {p : Nat} {H : AHeap} (h : PAt H p W s) : Does Tryz.prog G 149 [.ptr p 0] H fun r H' => r = .bool (decide (s.err = 0)) ∧ H' = H := by
  refine does_f Tryz.call149 Tryz.func149 rfl (by simp [Tryz.f149]) ?_
  unfold PAt stCells at h
  simp [h]
set_option maxRecDepth 100000 in
theorem p_word {W : Syn.Ws} {s : Syn.St} {p : Nat} {H : AHeap} (h : PAt H p W s) (hi : s.i < W.length) : Does Tryz.prog G 150 [.ptr p 0] H fun r H' => r = .agg (wdCells (Syn.at_ W s).2 (Syn.at_ W s).1) ∧ H' = H := by
  refine Does.forgot (R := fun r H' => r = .agg (wdCells (Syn.at_ W s).2 (Syn.at_ W s).1) ∧ ∀ j x, H.get j = some x → H'.get j = some x) ?_ ?_
  · refine Does.wf Tryz.call150 fun hw _ => ?_
    have old : ∀ j x, H.get j = some x → j ≠ H.next := fun j x hj => by have := next_lt hw hj; omega
    refine does_f Tryz.call150 Tryz.func150 rfl (by simp [Tryz.f150]) ?_
    have hp := old _ _ h
    unfold PAt stCells at h
    have hi' : (s.i : Int) < W.length := by omega
    have hd : (flatW W).drop (s.i * 4) = wdCells (Syn.at_ W s).2 (Syn.at_ W s).1 ++ flatW (W.drop (s.i + 1)) := flatW_at W s.i hi
    simp
    refine aw_drawn [(3, 0), (7, 0), (9, 0)] mixedOrders (by kernel_rfl) ?_
    intro es hes
    simp [h, hp, hi, hi', hd, rds, heapF, wdCells]
    refine ⟨?_, ?_⟩
    · subst hes
      exact ⟨by kernel_rfl, by kernel_rfl⟩
    intro j x hj
    simp [hj, old j x hj]
  · rintro hw ha r H1 ⟨rfl, h⟩
    exact ⟨h, by simp [AV.idLt, AV.allLt, wdCells], rfl, rfl⟩
theorem text_beq (a b : Bs) : (a == b) = decide (a = b) := by
  rw [Bool.eq_iff_iff]; simp
set_option maxRecDepth 100000 in
theorem p_fail {W : Syn.Ws} {s : Syn.St} {p : Nat} {H : AHeap} (h : PAt H p W s) (hi : s.i < W.length) (e : Nat) : Does Tryz.prog G 151 [.ptr p 0, .int .i64 e] H fun r H' => r = .tuple [] ∧ H' = H.set p (.cells (stCells W (Syn.fail W e s))) := by
  refine does_f Tryz.call151 Tryz.func151 rfl (by simp [Tryz.f151]) ?_
  simp
  refine does_use (p_ok h) ?_
  rintro _ H1 ⟨rfl, rfl⟩
  by_cases h0 : s.err = 0
  · simp [h0]
    refine does_use (p_word h hi) ?_
    rintro _ H2 ⟨rfl, rfl⟩
    unfold PAt stCells at h
    simp [h, h0, wdCells, Syn.fail, stCells]
  · simp [h0, Syn.fail]
    exact (set_same h).symm
set_option maxRecDepth 100000 in
theorem p_is {W : Syn.Ws} {s : Syn.St} {p : Nat} {H : AHeap} (h : PAt H p W s) (hi : s.i < W.length) (t : Bs) : Does Tryz.prog G 269 [.ptr p 0, .str t] H fun r H' => r = .bool (Syn.is W s t) ∧ H' = H := by
  refine Does.forgot (R := fun r H' => r = .bool (Syn.is W s t) ∧ ∀ j x, H.get j = some x → H'.get j = some x) ?_ ?_
  · refine Does.wf Tryz.call269 fun hw _ => ?_
    have old : ∀ j x, H.get j = some x → j ≠ H.next := fun j x hj => by have := next_lt hw hj; omega
    refine does_f Tryz.call269 Tryz.func269 rfl (by simp [Tryz.f269]) ?_
    simp
    refine does_use (p_word h hi) ?_
    rintro _ H1 ⟨rfl, rfl⟩
    have hp := old _ _ h
    simp [wdCells]
    refine does_use (p_ok (W := W) (s := s) (by unfold PAt; simp [hp]; exact h)) ?_
    rintro _ H2 ⟨rfl, rfl⟩
    by_cases h0 : s.err = 0
    · by_cases h2 : (Syn.at_ W s).2.kind = 2
      · have h2' : (((Syn.at_ W s).2.kind : Nat) : Int) = 2 := by omega
        simp [h0, h2, h2', Syn.is, Syn.kind, Syn.text]
        intro j x hj
        simp [hj, old j x hj]
      · have h2' : ¬ (((Syn.at_ W s).2.kind : Nat) : Int) = 2 := by omega
        by_cases h4 : (Syn.at_ W s).2.kind = 4
        · have h4' : (((Syn.at_ W s).2.kind : Nat) : Int) = 4 := by omega
          simp [h0, h2, h2', h4, h4', Syn.is, Syn.kind, Syn.text]
          intro j x hj
          simp [hj, old j x hj]
        · have h4' : ¬ (((Syn.at_ W s).2.kind : Nat) : Int) = 4 := by omega
          simp [h0, h2, h2', h4, h4', Syn.is, Syn.kind, Syn.text]
          intro j x hj
          simp [hj, old j x hj]
    · simp [h0, Syn.is]
      intro j x hj
      simp [hj, old j x hj]
  · rintro hw ha r H1 ⟨rfl, h⟩
    exact ⟨h, by simp [AV.idLt], rfl, rfl⟩
end Go.Proofs.YtnhomjhfaoipmaaGreatDoor

namespace Go.Proofs.YtnhomjhfaoipmaaGreatDoor
open Go Go.Abs Go.Lex
set_option linter.unusedSimpArgs false
variable {G : Nat → Option AV}
theorem wrap_eq (n : Int) : IntKind.i64.wrap n = Syn.wrap n := by rw [IntKind.wrap_i64]; rfl
theorem is_kind {W : Syn.Ws} {s : Syn.St} {t : Bs} (h : Syn.is W s t = true) : s.err = 0 ∧ (Syn.at_ W s).2.kind ≠ 0 := by
  simp only [Syn.is, Syn.kind, Bool.and_eq_true, Bool.or_eq_true, beq_iff_eq] at h
  exact ⟨h.1, by omega⟩
theorem one_kind {W : Syn.Ws} {s : Syn.St} {ts : List Bs} (h : Syn.one W s ts = true) : s.err = 0 ∧ (Syn.at_ W s).2.kind ≠ 0 := by
  simp only [Syn.one, List.any_eq_true] at h
  obtain ⟨t, _, h⟩ := h
  exact is_kind h
theorem ok_succ {W : Syn.Ws} (hW : WsOk W) {s : Syn.St} (hi : s.i < W.length) (hk : (Syn.at_ W s).2.kind ≠ 0) : s.i + 1 < W.length := hW.last s.i hi hk
theorem fail_i (W : Syn.Ws) (e : Nat) (s : Syn.St) : (Syn.fail W e s).i = s.i := by unfold Syn.fail; split <;> rfl
theorem want1_ok {W : Syn.Ws} (hW : WsOk W) {s : Syn.St} (hi : s.i < W.length) (t : Bs) : (Syn.want1 W s t).i < W.length := by
  unfold Syn.want1
  split
  · rename_i h; exact ok_succ hW hi (is_kind h).2
  · rw [fail_i]; exact hi
theorem want_ok {W : Syn.Ws} (hW : WsOk W) : ∀ (ts : List Bs) {s : Syn.St}, s.i < W.length → (Syn.want W s ts).i < W.length
  | [], _, h => h
  | t :: ts, _, h => want_ok hW ts (want1_ok hW h t)
theorem take_ok {W : Syn.Ws} (hW : WsOk W) {s : Syn.St} (hi : s.i < W.length) (t : Bs) : (Syn.take W s t).2.i < W.length := by
  unfold Syn.take
  split
  · rename_i h; exact ok_succ hW hi (is_kind h).2
  · exact hi
theorem part_ok {W : Syn.Ws} (hW : WsOk W) {s : Syn.St} (hi : s.i < W.length) (hk : (Syn.at_ W s).2.kind ≠ 0) : (Syn.part W s).i < W.length := by
  have h := ok_succ hW hi hk
  unfold Syn.part
  simp only
  by_cases hc : 300 < Syn.wrap (s.parts + 1)
  · simp only [hc, if_true]
    split <;> simp only [fail_i] <;> omega
  · simp only [hc, if_false]
    split <;> omega
theorem deeper_i (W : Syn.Ws) (b : Bool) (s : Syn.St) : (Syn.deeper W b s).2.i = s.i := by
  unfold Syn.deeper
  simp only
  split
  · exact fail_i W 2 s
  · rfl
theorem name_ok {W : Syn.Ws} (hW : WsOk W) {s : Syn.St} (hi : s.i < W.length) : (Syn.name W s).2.i < W.length := by
  unfold Syn.name
  simp only
  by_cases h1 : Syn.kind W s = 1
  · rw [if_pos h1]
    split
    · exact ok_succ hW hi (by unfold Syn.kind at h1; omega)
    · exact hi
  · rw [if_neg h1]
    split
    · rename_i h
      unfold Syn.fail at h
      split at h
      · simp at h
      · rename_i h2; exact absurd h h2
    · rw [fail_i]; exact hi
theorem PAt.set {H : AHeap} {p : Nat} {W : Syn.Ws} (s : Syn.St) : PAt (H.set p (.cells (stCells W s))) p W s := by unfold PAt; simp
theorem PAt.ext {H H' : AHeap} {p : Nat} {W : Syn.Ws} {s : Syn.St} (h : PAt H p W s) (hg : H'.get p = H.get p) : PAt H' p W s := hg.trans h
theorem stCells_lt (n : Nat) (W : Syn.Ws) (s : Syn.St) : AV.allLt n (stCells W s) = true := by
  simp [stCells, AV.allLt, AV.idLt, flatW_lt]
theorem set_back {W : Syn.Ws} {s s' : Syn.St} {p : Nat} {H H1 : AHeap} (hw : H.Wf) (h : PAt H p W s) (h1 : H1.get p = some (.cells (stCells W s'))) (h2 : ∀ j x, j ≠ p → H.get j = some x → H1.get j = some x) :
    ∀ i x, (H.set p (.cells (stCells W s'))).get i = some x → H1.get i = some x ∧ i < H.next ∧ AV.allLt H.next x.cellsList = true := by
  intro i x hi
  simp only [AHeap.get_set] at hi
  split at hi
  · rename_i e; subst e
    simp only [Option.some.injEq] at hi; subst hi
    exact ⟨h1, next_lt hw h, stCells_lt _ _ _⟩
  · rename_i e
    exact ⟨h2 i x e hi, (hw i x hi).1, (hw i x hi).2⟩
set_option maxRecDepth 100000 in
theorem p_index {W : Syn.Ws} {s : Syn.St} {p : Nat} {H : AHeap} (h : PAt H p W s) (hi : s.i < W.length) (ts : List Bs) (j cap : Nat) (op : Bool) (hj : H.get j = some (.cells (ts.map .str))) (hl : ts.length ≤ 1000) :
    Does Tryz.prog G 169 [.sl j 0 1 ts.length cap op, .func (.func 269) [.ptr p 0] []] H fun r H' => (∃ n : Int, r = .int .i64 n ∧ (0 ≤ n ↔ Syn.one W s ts = true)) ∧ H' = H := by
  refine does_f Tryz.call169 Tryz.func169 rfl (by simp [Tryz.f169]) ?_
  simp
  refine aws_loop (fun m T' H' => ∃ a b, ts = a ++ b ∧ m = b.length ∧ (∀ y ∈ a, Syn.is W s y = false) ∧ T' 0 = .sl j 0 1 ts.length cap op ∧ T' 1 = .func (.func 269) [.ptr p 0] [] ∧ T' 7 = .int .i64 ts.length ∧ T' 8 = .int .i64 a.length ∧ H' = H) ts.length ⟨[], ts, rfl, rfl, by simp, by simp, by simp, by simp, by simp, rfl⟩ ?_
  rintro m T H1 ⟨a, b, hab, rfl, hn, t0, t1, t7, t8, rfl⟩
  have hlen : a.length + b.length = ts.length := by rw [← List.length_append, ← hab]
  cases b with
  | nil =>
    have ha : a.length = ts.length := by simpa using hlen
    have hone : Syn.one W s ts = false := by
      rw [Syn.one, hab, List.append_nil, List.any_eq_false]
      intro x hx; rw [hn x hx]; simp
    simp [t0, t1, t7, t8, ha, hone]
  | cons t b =>
    simp only [List.length_cons] at hlen
    have hlt : (a.length : Int) < ts.length := by omega
    have hlt2 : a.length < ts.length := by omega
    have hlt3 : a.length ≤ ts.length := by omega
    have hw1 : IntKind.i64.wrap ((a.length : Int) + 1) = a.length + 1 := IntWalk.i64_in _ (by omega)
    have hd : List.drop a.length (List.map AV.str ts) = .str t :: b.map .str := by
      rw [hab, List.map_append, List.drop_left' (by simp)]; rfl
    simp [t0, t1, t7, t8, hlt, hlt2, hlt3, hd, hj]
    refine does_use (p_is h hi t) ?_
    rintro _ H2 ⟨rfl, rfl⟩
    by_cases ht : Syn.is W s t = true
    · have hone : Syn.one W s ts = true := by
        rw [Syn.one, List.any_eq_true]
        exact ⟨t, by rw [hab]; simp, ht⟩
      simp [ht, hone]
    · have ht' : Syn.is W s t = false := by simpa using ht
      simp [ht', t0, t1, t7, t8, hw1]
      refine ⟨b.length, by omega, a ++ [t], b, by simp [hab], rfl, ?_, by simp⟩
      intro y hy
      simp at hy
      rcases hy with hy | rfl
      · exact hn y hy
      · exact ht'
set_option maxRecDepth 100000 in
theorem p_contains {W : Syn.Ws} {s : Syn.St} {p : Nat} {H : AHeap} (h : PAt H p W s) (hi : s.i < W.length) (ts : List Bs) (j cap : Nat) (op : Bool) (hj : H.get j = some (.cells (ts.map .str))) (hl : ts.length ≤ 1000) :
    Does Tryz.prog G 167 [.sl j 0 1 ts.length cap op, .func (.func 269) [.ptr p 0] []] H fun r H' => r = .bool (Syn.one W s ts) ∧ H' = H := by
  refine does_f Tryz.call167 Tryz.func167 rfl (by simp [Tryz.f167]) ?_
  simp
  refine does_use (p_index h hi ts j cap op hj hl) ?_
  rintro _ H1 ⟨⟨n, rfl, hn⟩, rfl⟩
  simp
  rw [Bool.eq_iff_iff, decide_eq_true_eq, hn]
set_option maxRecDepth 100000 in
theorem p_one {W : Syn.Ws} {s : Syn.St} {p : Nat} {H : AHeap} (h : PAt H p W s) (hi : s.i < W.length) (ts : List Bs) (j cap : Nat) (op : Bool) (hj : H.get j = some (.cells (ts.map .str))) (hl : ts.length ≤ 1000) :
    Does Tryz.prog G 344 [.ptr p 0, .sl j 0 1 ts.length cap op] H fun r H' => r = .bool (Syn.one W s ts) ∧ H' = H := by
  refine does_f Tryz.call344 Tryz.func344 rfl (by simp [Tryz.f344]) ?_
  simp
  refine does_use (p_contains h hi ts j cap op hj hl) ?_
  rintro _ H1 ⟨rfl, rfl⟩
  simp
set_option maxRecDepth 100000 in
theorem p_take {W : Syn.Ws} (hW : WsOk W) {s : Syn.St} {p : Nat} {H : AHeap} (h : PAt H p W s) (hi : s.i < W.length) (t : Bs) : Does Tryz.prog G 219 [.ptr p 0, .str t] H fun r H' => r = .bool (Syn.take W s t).1 ∧ H' = H.set p (.cells (stCells W (Syn.take W s t).2)) := by
  refine does_f Tryz.call219 Tryz.func219 rfl (by simp [Tryz.f219]) ?_
  simp
  refine does_use (p_is h hi t) ?_
  rintro _ H1 ⟨rfl, rfl⟩
  have hsm := hW.small
  have hw1 : IntKind.i64.wrap ((s.i : Int) + 1) = s.i + 1 := IntWalk.i64_in _ (by omega)
  by_cases ht : Syn.is W s t = true
  · unfold PAt stCells at h
    simp [ht, Syn.take, h, hw1, stCells]
  · have ht' : Syn.is W s t = false := by simpa using ht
    simp [ht', Syn.take]
    exact (set_same h).symm
set_option maxRecDepth 100000 in
theorem p_want {W : Syn.Ws} (hW : WsOk W) {s : Syn.St} {p : Nat} {H : AHeap} (h : PAt H p W s) (hi : s.i < W.length) (ts : List Bs) (j cap : Nat) (op : Bool) (hj : H.get j = some (.cells (ts.map .str))) (hjp : j ≠ p) (hl : ts.length ≤ 1000) :
    Does Tryz.prog G 216 [.ptr p 0, .sl j 0 1 ts.length cap op] H fun r H' => r = .tuple [] ∧ H' = H.set p (.cells (stCells W (Syn.want W s ts))) := by
  refine does_f Tryz.call216 Tryz.func216 rfl (by simp [Tryz.f216]) ?_
  simp
  refine aws_loop (fun m T' H' => ∃ a b, ts = a ++ b ∧ m = b.length ∧ T' 0 = .ptr p 0 ∧ T' 6 = .sl j 0 1 ts.length cap op ∧ T' 7 = .int .i64 ts.length ∧ T' 8 = .int .i64 a.length ∧ H' = H.set p (.cells (stCells W (Syn.want W s a)))) ts.length ⟨[], ts, rfl, rfl, by simp, by simp, by simp, by simp, by simp [Syn.want]; exact (set_same h).symm⟩ ?_
  rintro m T H1 ⟨a, b, hab, rfl, t0, t6, t7, t8, rfl⟩
  have hlen : a.length + b.length = ts.length := by rw [← List.length_append, ← hab]
  cases b with
  | nil =>
    have ha : a.length = ts.length := by simpa using hlen
    rw [List.append_nil] at hab
    subst hab
    simp [t0, t6, t7, t8]
  | cons t b =>
    simp only [List.length_cons] at hlen
    have hlt : (a.length : Int) < ts.length := by omega
    have hlt2 : a.length < ts.length := by omega
    have hlt3 : a.length ≤ ts.length := by omega
    have hw1 : IntKind.i64.wrap ((a.length : Int) + 1) = a.length + 1 := IntWalk.i64_in _ (by omega)
    have hd : List.drop a.length (List.map AV.str ts) = .str t :: b.map .str := by
      rw [hab, List.map_append, List.drop_left' (by simp)]; rfl
    have hia := want_ok hW a hi
    have hst : Syn.want W s (a ++ [t]) = Syn.want1 W (Syn.want W s a) t := by simp [Syn.want]
    simp [t0, t6, t7, t8, hlt, hlt2, hlt3, hd, hj, hjp]
    refine does_use (p_take hW (PAt.set _) hia t) ?_
    rintro _ H2 ⟨rfl, rfl⟩
    simp
    by_cases ht : Syn.is W (Syn.want W s a) t = true
    · simp [ht, Syn.take, t0, t6, t7, t8, hw1]
      exact ⟨b.length, by omega, a ++ [t], b, by simp [hab], rfl, by simp, by rw [hst, Syn.want1, if_pos ht]⟩
    · have ht' : Syn.is W (Syn.want W s a) t = false := by simpa using ht
      simp [ht', Syn.take, t0, t6, t7, t8, hw1]
      refine does_use (p_fail (PAt.set _) hia 7) ?_
      rintro _ H3 ⟨rfl, rfl⟩
      simp [t0, t6, t7, t8, hw1]
      exact ⟨b.length, by omega, a ++ [t], b, by simp [hab], rfl, by simp, by rw [hst, Syn.want1, if_neg ht]⟩
set_option maxRecDepth 100000 in
theorem p_deeper {W : Syn.Ws} {s : Syn.St} {p : Nat} {H : AHeap} (h : PAt H p W s) (hi : s.i < W.length) (d : Int) : Does Tryz.prog G 317 [.ptr p 0, .int .i64 d] H fun r H' => r = .bool (Syn.deeper W (decide (d = 30)) s).1 ∧ H' = H.set p (.cells (stCells W (Syn.deeper W (decide (d = 30)) s).2)) := by
  refine does_f Tryz.call317 Tryz.func317 rfl (by simp [Tryz.f317]) ?_
  by_cases hd : d = 30
  · simp [hd]
    refine does_use (p_fail h hi 2) ?_
    rintro _ H1 ⟨rfl, rfl⟩
    simp
    refine does_use (p_ok (PAt.set _)) ?_
    rintro _ H2 ⟨rfl, rfl⟩
    subst hd
    simp [Syn.deeper]
  · simp [hd]
    refine does_use (p_ok h) ?_
    rintro _ H2 ⟨rfl, rfl⟩
    simp [Syn.deeper, hd]
    exact (set_same h).symm
set_option maxRecDepth 100000 in
theorem p_part {W : Syn.Ws} (hW : WsOk W) {s : Syn.St} {p : Nat} {H : AHeap} (h : PAt H p W s) (hi : s.i < W.length) : Does Tryz.prog G 316 [.ptr p 0] H fun r H' => r = .agg (wdCells (Syn.at_ W s).2 (Syn.at_ W s).1) ∧ H' = H.set p (.cells (stCells W (Syn.part W s))) := by
  refine Does.deep (R := fun r H' => r = .agg (wdCells (Syn.at_ W s).2 (Syn.at_ W s).1) ∧ H'.get p = some (.cells (stCells W (Syn.part W s))) ∧ ∀ j x, j ≠ p → H.get j = some x → H'.get j = some x) ?_ ?_
  · refine Does.wf Tryz.call316 fun hw _ => ?_
    have old : ∀ j x, H.get j = some x → j ≠ H.next ∧ j ≠ H.next + 1 := fun j x hj => by have := next_lt hw hj; omega
    refine does_f Tryz.call316 Tryz.func316 rfl (by simp [Tryz.f316]) ?_
    obtain ⟨hp1, hp2⟩ := old _ _ h
    have hsm := hW.small
    have hw1 : IntKind.i64.wrap ((s.i : Int) + 1) = s.i + 1 := IntWalk.i64_in _ (by omega)
    have hw2 : IntKind.i64.wrap (s.parts + 1) = Syn.wrap (s.parts + 1) := wrap_eq _
    simp
    refine does_use (p_word (W := W) (s := s) (by unfold PAt; simp [hp1]; exact h) hi) ?_
    rintro _ H1 ⟨rfl, rfl⟩
    have h' := h
    unfold PAt stCells at h'
    by_cases hc : 300 < Syn.wrap (s.parts + 1)
    · simp [wdCells, h', hp1, hp2, hw2, hc]
      refine does_use (p_fail (W := W) (s := { s with parts := Syn.wrap (s.parts + 1) }) (by unfold PAt stCells; simp) hi 2) ?_
      rintro _ H2 ⟨rfl, rfl⟩
      simp
      refine does_use (p_ok (PAt.set _)) ?_
      rintro _ H3 ⟨rfl, rfl⟩
      by_cases h0 : (Syn.fail W 2 { s with parts := Syn.wrap (s.parts + 1) }).err = 0
      · exact absurd h0 (by unfold Syn.fail; split <;> simp_all)
      · simp [h0, Syn.part, hc, hp1, hp2, Ne.symm hp1, Ne.symm hp2]
        refine ⟨rfl, fun j x hjp hj => ?_⟩
        obtain ⟨k1, k2⟩ := old j x hj
        simp [hj, hjp, k1, k2]
    · simp [wdCells, h', hp1, hp2, hw2, hc]
      refine does_use (p_ok (W := W) (s := { s with parts := Syn.wrap (s.parts + 1) }) (by unfold PAt stCells; simp)) ?_
      rintro _ H3 ⟨rfl, rfl⟩
      by_cases h0 : s.err = 0
      · simp [h0, Syn.part, hc, hp1, hp2, Ne.symm hp1, Ne.symm hp2, hw1, stCells]
        refine ⟨rfl, fun j x hjp hj => ?_⟩
        obtain ⟨k1, k2⟩ := old j x hj
        simp [hj, hjp, k1, k2]
      · simp [h0, Syn.part, hc, hp1, hp2, Ne.symm hp1, Ne.symm hp2, hw1, stCells]
        refine ⟨rfl, fun j x hjp hj => ?_⟩
        obtain ⟨k1, k2⟩ := old j x hj
        simp [hj, hjp, k1, k2]
  · rintro hw ha r H1 ⟨rfl, h1, h2⟩
    exact ⟨_, H.set p (.cells (stCells W (Syn.part W s))), .old (by simp [AV.idLt, AV.allLt, wdCells]), rfl, set_back hw h h1 h2, rfl, rfl⟩
end Go.Proofs.YtnhomjhfaoipmaaGreatDoor

namespace Go.Proofs.YtnhomjhfaoipmaaGreatDoor
open Go Go.Abs Go.Lex
set_option linter.unusedSimpArgs false
variable {G : Nat → Option AV}
def kidsV (ks : List Syn.Ex) : AV := if ks.isEmpty then .nilsl else .vsl (exsCells ks) ks.length
@[simp] theorem kidsV_scalar (ks : List Syn.Ex) : (kidsV ks).scalar = true := by unfold kidsV; split <;> rfl
@[simp] theorem kidsV_cells (ks : List Syn.Ex) : (kidsV ks).cells = [kidsV ks] := by unfold kidsV; split <;> rfl
theorem exCells_mk (op nm : Bs) (n p : Nat) (ks : List Syn.Ex) : exCells (.mk op nm n p ks) = [.str op, .str nm, .int .i64 n, .int .i64 p, kidsV ks] := by
  simp only [exCells, kidsV]
mutual
theorem exCells_lt (m : Nat) : ∀ e : Syn.Ex, AV.allLt m (exCells e) = true
  | .mk op nm n p ks => by
    have h := exsCells_lt m ks
    rw [exCells_mk]
    unfold kidsV
    split <;> simp [AV.allLt, AV.idLt, h]
theorem exsCells_lt (m : Nat) : ∀ l : List Syn.Ex, AV.allLt m (exsCells l) = true
  | [] => rfl
  | e :: l => by rw [exsCells, allLt_app, exCells_lt m e, exsCells_lt m l]; rfl
end
theorem kidsV_lt (m : Nat) (ks : List Syn.Ex) : (kidsV ks).idLt m = true := by
  unfold kidsV
  split
  · rfl
  · simpa [AV.idLt] using exsCells_lt m ks
def PRes (H : AHeap) (p : Nat) (W : Syn.Ws) (x : Syn.Ex × Syn.St) (r : AV) (H' : AHeap) : Prop :=
  ResV H'.get H.next r (.agg (exCells x.1)) ∧ H'.get p = some (.cells (stCells W x.2)) ∧ ∀ j y, j ≠ p → H.get j = some y → H'.get j = some y
theorem PRes.deep {f : FuncId} {args : List AV} {H : AHeap} {p : Nat} {W : Syn.Ws} {s : Syn.St} {x : Syn.Ex × Syn.St} (h : PAt H p W s) (hd : Does Tryz.prog G f args H (PRes H p W x)) : Does Tryz.prog G f args H fun r H' => r = .agg (exCells x.1) ∧ H' = H.set p (.cells (stCells W x.2)) := by
  refine Does.deep hd ?_
  rintro hw ha r H1 ⟨h1, h2, h3⟩
  exact ⟨_, H.set p (.cells (stCells W x.2)), h1, rfl, set_back hw h h2 h3, rfl, rfl⟩
def Reads (G : Nat → Option AV) (W : Syn.Ws) (p : Nat) (f : FuncId) (d : Int) (g : Syn.P) : Prop :=
  ∀ (H : AHeap) (s : Syn.St), PAt H p W s → s.i < W.length → Does Tryz.prog G f [.ptr p 0, .int .i64 d] H fun r H' => r = .agg (exCells (g s).1) ∧ H' = H.set p (.cells (stCells W (g s).2))
def RightC (G : Nat → Option AV) (W : Syn.Ws) (p : Nat) (nf : FuncId) (t : Bs) (d : Int) (g : Syn.P) : Prop :=
  ∀ (H : AHeap) (s : Syn.St), PAt H p W s → s.i < W.length → Does Tryz.prog G 271 [.ptr p 0, .int .i64 d, .func (.func nf) [.ptr p 0] [], .str t] H fun r H' => r = .agg (exCells (g s).1) ∧ H' = H.set p (.cells (stCells W (g s).2))
def mu (W : Syn.Ws) (s : Syn.St) : Nat := if s.err = 0 then W.length - s.i else 0
structure Keeps (W : Syn.Ws) (g : Syn.P) : Prop where
  i : ∀ s, s.i < W.length → (g s).2.i < W.length
  mu : ∀ s, s.i < W.length → mu W (g s).2 ≤ mu W s
set_option maxRecDepth 100000 in
theorem p_name {W : Syn.Ws} (hW : WsOk W) {s : Syn.St} {p : Nat} {H : AHeap} (h : PAt H p W s) (hi : s.i < W.length) : Does Tryz.prog G 217 [.ptr p 0] H fun r H' => r = .str (Syn.name W s).1 ∧ H' = H.set p (.cells (stCells W (Syn.name W s).2)) := by
  refine Does.deep (R := fun r H' => r = .str (Syn.name W s).1 ∧ H'.get p = some (.cells (stCells W (Syn.name W s).2)) ∧ ∀ j x, j ≠ p → H.get j = some x → H'.get j = some x) ?_ ?_
  · refine Does.wf Tryz.call217 fun hw _ => ?_
    have old : ∀ j x, H.get j = some x → j ≠ H.next := fun j x hj => by have := next_lt hw hj; omega
    refine does_f Tryz.call217 Tryz.func217 rfl (by simp [Tryz.f217]) ?_
    have hp1 := old _ _ h
    have hsm := hW.small
    have hw1 : IntKind.i64.wrap ((s.i : Int) + 1) = s.i + 1 := IntWalk.i64_in _ (by omega)
    simp
    refine does_use (p_word h hi) ?_
    rintro _ H1 ⟨rfl, rfl⟩
    by_cases hk : (Syn.at_ W s).2.kind = 1
    · have hk' : (((Syn.at_ W s).2.kind : Nat) : Int) = 1 := by omega
      simp [wdCells, hk']
      refine does_use (p_ok (W := W) (s := s) (by unfold PAt; simp [hp1]; exact h)) ?_
      rintro _ H2 ⟨rfl, rfl⟩
      by_cases h0 : s.err = 0
      · have h' := h
        unfold PAt stCells at h'
        simp [h0, h', hp1, Ne.symm hp1, hw1, Syn.name, Syn.kind, hk, Syn.text, stCells]
        intro j x hjp hj
        simp [hj, hjp, old j x hj]
      · simp [h0, hp1, Syn.name, Syn.kind, hk]
        refine ⟨h, fun j x hjp hj => ?_⟩
        simp [hj, hjp, old j x hj]
    · have hk' : ¬ (((Syn.at_ W s).2.kind : Nat) : Int) = 1 := by omega
      have hk2 : ((((Syn.at_ W s).2.kind : Nat) : Int) != 1) = true := by simp [hk']
      simp [wdCells, hk2]
      refine does_use (p_fail (W := W) (s := s) (by unfold PAt; simp [hp1]; exact h) hi 7) ?_
      rintro _ H2 ⟨rfl, rfl⟩
      simp
      refine does_use (p_ok (PAt.set _)) ?_
      rintro _ H3 ⟨rfl, rfl⟩
      have h0 : ¬ (Syn.fail W 7 s).err = 0 := by unfold Syn.fail; split <;> simp_all
      simp [h0, hp1, Syn.name, Syn.kind, hk]
      intro j x hjp hj
      simp [hj, hjp, old j x hj]
  · rintro hw ha r H1 ⟨rfl, h1, h2⟩
    exact ⟨_, H.set p (.cells (stCells W (Syn.name W s).2)), .old rfl, rfl, set_back hw h h1 h2, rfl, rfl⟩
set_option maxHeartbeats 2000000 in
set_option maxRecDepth 100000 in
theorem p_right {W : Syn.Ws} (hW : WsOk W) {p : Nat} {nf : FuncId} {t : Bs} {d : Int} {next below : Syn.P} (hd1 : 1 ≤ d) (hd2 : d ≤ 30) (hn : Reads G W p nf d next) (hk : Keeps W next) (hb : d ≠ 30 → RightC G W p nf t (d + 1) below) :
    RightC G W p nf t d (Syn.right W next t (decide (d = 30)) below) := by
  intro H s h hi
  refine PRes.deep h ?_
  refine Does.wf Tryz.call271 fun hw _ => ?_
  have old : ∀ j x, H.get j = some x → j ≠ H.next ∧ j ≠ H.next + 1 ∧ j ≠ H.next + 1 + 1 := fun j x hj => by have := next_lt hw hj; omega
  refine does_f Tryz.call271 Tryz.func271 rfl (by simp [Tryz.f271]) ?_
  obtain ⟨hp1, hp2, hp3⟩ := old _ _ h
  simp
  refine does_use (hn _ s (by unfold PAt; simp [hp1]; exact h) hi) ?_
  rintro _ H1 ⟨rfl, rfl⟩
  have hi1 := hk.i s hi
  rcases hx : next s with ⟨⟨op, nm, n, po, ks⟩, s1⟩
  rw [hx] at hi1
  simp only at hi1
  simp [exCells_mk, hp1, Ne.symm hp1]
  refine does_use (p_is (W := W) (s := s1) (by unfold PAt; simp [hp2]) hi1 t) ?_
  rintro _ H2 ⟨rfl, rfl⟩
  by_cases ht : Syn.is W s1 t = true
  · simp [ht]
    have hk1 := is_kind ht
    refine does_use (p_part hW (W := W) (s := s1) (by unfold PAt; simp [hp2]) hi1) ?_
    rintro _ H2 ⟨rfl, rfl⟩
    have hi2 := part_ok hW hi1 hk1.2
    simp [wdCells]
    refine does_use (p_deeper (W := W) (s := Syn.part W s1) (by unfold PAt; simp [hp3]) hi2 d) ?_
    rintro _ H3 ⟨rfl, rfl⟩
    rcases hdp : Syn.deeper W (decide (d = 30)) (Syn.part W s1) with ⟨b, s2⟩
    have hi3 : s2.i < W.length := by
      have := deeper_i W (decide (d = 30)) (Syn.part W s1)
      rw [hdp] at this
      simp only at this
      omega
    have n0 : H.next ≠ H.next + 1 + 1 := by omega
    cases b with
    | false =>
      simp [hp1, hp2, hp3, Ne.symm hp1, Ne.symm hp2, Ne.symm hp3, n0]
      refine ⟨?_, ?_, ?_⟩
      · simp [Syn.right, hx, ht, hdp]
        rw [exCells_mk]
        exact .old (by simp [AV.idLt, AV.allLt, kidsV_lt])
      · simp [Syn.right, hx, ht, hdp, hp1, hp2, hp3]
      · intro j x hjp hj
        obtain ⟨k1, k2, k3⟩ := old j x hj
        simp [hj, hjp, k1, k2, k3]
    | true =>
      have hd30 : d ≠ 30 := by
        intro e
        subst e
        simp only [decide_true, Syn.deeper, if_true, Prod.mk.injEq] at hdp
        have : ¬ (Syn.fail W 2 (Syn.part W s1)).err = 0 := by unfold Syn.fail; split <;> simp_all
        simp [this] at hdp
      have hw1 : IntKind.i64.wrap (d + 1) = d + 1 := IntWalk.i64_in _ (by omega)
      have hB := hb hd30 
      simp [hp1, hp2, hp3, Ne.symm hp1, Ne.symm hp2, Ne.symm hp3, n0]
      refine aw_drawn [(2, 0), (2, 10), (3, 0), (3, 10)] mixedOrders (by kernel_rfl) ?_
      intro es hes
      simp [hp1, hp2, hp3, Ne.symm hp1, Ne.symm hp2, Ne.symm hp3, n0, hw1]
      refine ⟨_, _, hB _ s2 (by unfold PAt; simp) hi3, by simp, ?_⟩
      rcases hy : below s2 with ⟨⟨op2, nm2, n2, po2, ks2⟩, s4⟩
      have m1 : H.next ≠ H.next + 1 + 1 + 1 := by omega
      have m2 : H.next + 1 + 1 + 1 ≠ H.next := by omega
      have m3 : H.next + 1 + 1 + 1 ≠ H.next + 1 := by omega
      have hp4 : p ≠ H.next + 1 + 1 + 1 := by have := next_lt hw h; omega
      simp [exCells_mk, hp1, hp2, hp3, hp4, Ne.symm hp1, Ne.symm hp2, Ne.symm hp3, Ne.symm hp4, n0, m1, m2, m3, rds, heapF]
      refine ⟨?_, ?_, ?_, ?_⟩
      · subst hes
        exact ⟨by kernel_rfl, by kernel_rfl⟩
      · simp [Syn.right, hx, ht, hdp, hy]
        rw [exCells_mk]
        refine .agg (.cons (.old rfl) (.cons (.old rfl) (.cons (.old rfl) (.cons (.old rfl) (.cons ?_ .nil)))))
        have hkk : kidsV [Syn.Ex.mk op nm n po ks, Syn.Ex.mk op2 nm2 n2 po2 ks2] = .vsl (exsCells [Syn.Ex.mk op nm n po ks, Syn.Ex.mk op2 nm2 n2 po2 ks2]) 2 := rfl
        rw [hkk]
        refine .sl (cs := exsCells [Syn.Ex.mk op nm n po ks, Syn.Ex.mk op2 nm2 n2 po2 ks2]) (by omega) ?_ ?_
        · simp [exsCells, exCells_mk, hp4, Ne.symm hp4, m1, m2, m3]
        · simp only [exsCells, exCells_mk]
          exact .old (by simp [AV.allLt, AV.idLt, kidsV_lt])
      · simp [Syn.right, hx, ht, hdp, hy, hp1, hp2, hp3, hp4]
      · intro j x hjp hj
        obtain ⟨k1, k2, k3⟩ := old j x hj
        have k4 : j ≠ H.next + 1 + 1 + 1 := by have := next_lt hw hj; omega
        simp [hj, hjp, k1, k2, k3, k4]
  · have ht' : Syn.is W s1 t = false := by simpa using ht
    simp [ht', hp1, hp2, Ne.symm hp1, Ne.symm hp2]
    refine ⟨?_, ?_, ?_⟩
    · simp [Syn.right, hx, ht']
      rw [exCells_mk]
      exact .old (by simp [AV.idLt, AV.allLt, kidsV_lt])
    · simp [Syn.right, hx, ht', hp1, hp2]
    · intro j x hjp hj
      obtain ⟨k1, k2, k3⟩ := old j x hj
      simp [hj, hjp, k1, k2, k3]
end Go.Proofs.YtnhomjhfaoipmaaGreatDoor

namespace Go.Proofs.YtnhomjhfaoipmaaGreatDoor
open Go Go.Abs Go.Lex
set_option linter.unusedSimpArgs false
variable {G : Nat → Option AV}
theorem fail_err (W : Syn.Ws) {e : Nat} (he : e ≠ 0) (s : Syn.St) : ¬ (Syn.fail W e s).err = 0 := by unfold Syn.fail; split <;> simp_all
theorem deeper_no {W : Syn.Ws} {d : Int} {s s2 : Syn.St} (h : Syn.deeper W (decide (d = 30)) s = (true, s2)) : d ≠ 30 ∧ s2 = s := by
  by_cases e : d = 30
  · subst e
    simp [Syn.deeper, fail_err W (e := 2) (by omega)] at h
  · simp only [Syn.deeper, e, decide_false, Bool.false_eq_true, if_false, Prod.mk.injEq] at h
    exact ⟨e, h.2.symm⟩
set_option maxHeartbeats 2000000 in
set_option maxRecDepth 100000 in
theorem p_inner {W : Syn.Ws} {p : Nat} {d : Int} {below : Syn.P} (hd1 : 1 ≤ d) (hd2 : d ≤ 30) (hb : d ≠ 30 → Reads G W p 221 (d + 1) below) :
    Reads G W p 389 d (Syn.inner W (decide (d = 30)) below) := by
  intro H s h hi
  refine PRes.deep h ?_
  refine Does.wf Tryz.call389 fun hw _ => ?_
  have old : ∀ j x, H.get j = some x → j ≠ H.next := fun j x hj => by have := next_lt hw hj; omega
  refine does_f Tryz.call389 Tryz.func389 rfl (by simp [Tryz.f389]) ?_
  have hp1 := old _ _ h
  simp
  refine does_use (p_deeper (W := W) (s := s) (by unfold PAt; simp [hp1]; exact h) hi d) ?_
  rintro _ H1 ⟨rfl, rfl⟩
  rcases hdp : Syn.deeper W (decide (d = 30)) s with ⟨b, s2⟩
  have hi3 : s2.i < W.length := by
    have := deeper_i W (decide (d = 30)) s
    rw [hdp] at this
    simp only at this
    omega
  cases b with
  | false =>
    simp [hp1, Ne.symm hp1]
    refine ⟨?_, ?_, ?_⟩
    · simp [Syn.inner, hdp]
      exact .old rfl
    · simp [Syn.inner, hdp, hp1]
    · intro j x hjp hj
      simp [hj, hjp, old j x hj]
  | true =>
    have hd30 := (deeper_no hdp).1
    have hw1 : IntKind.i64.wrap (d + 1) = d + 1 := IntWalk.i64_in _ (by omega)
    have hB := hb hd30
    simp [hp1, Ne.symm hp1, hw1]
    refine does_use (hB _ s2 (PAt.set _) hi3) ?_
    rintro _ H2 ⟨rfl, rfl⟩
    rcases hy : below s2 with ⟨⟨op, nm, n, po, ks⟩, s4⟩
    simp [exCells_mk, hp1, Ne.symm hp1]
    refine ⟨?_, ?_, ?_⟩
    · simp [Syn.inner, hdp, hy]
      rw [exCells_mk]
      exact .old (by simp [AV.idLt, AV.allLt, kidsV_lt])
    · simp [Syn.inner, hdp, hy, hp1]
    · intro j x hjp hj
      simp [hj, hjp, old j x hj]
set_option maxHeartbeats 2000000 in
set_option maxRecDepth 100000 in
theorem p_merged {W : Syn.Ws} {p : Nat} {d : Int} {below : Syn.P} (hd1 : 1 ≤ d) (hd2 : d ≤ 30) (hb : d ≠ 30 → Reads G W p 388 (d + 1) below) :
    Reads G W p 392 d (Syn.inner W (decide (d = 30)) below) := by
  intro H s h hi
  refine PRes.deep h ?_
  refine Does.wf Tryz.call392 fun hw _ => ?_
  have old : ∀ j x, H.get j = some x → j ≠ H.next := fun j x hj => by have := next_lt hw hj; omega
  refine does_f Tryz.call392 Tryz.func392 rfl (by simp [Tryz.f392]) ?_
  have hp1 := old _ _ h
  simp
  refine does_use (p_deeper (W := W) (s := s) (by unfold PAt; simp [hp1]; exact h) hi d) ?_
  rintro _ H1 ⟨rfl, rfl⟩
  rcases hdp : Syn.deeper W (decide (d = 30)) s with ⟨b, s2⟩
  have hi3 : s2.i < W.length := by
    have := deeper_i W (decide (d = 30)) s
    rw [hdp] at this
    simp only at this
    omega
  cases b with
  | false =>
    simp [hp1, Ne.symm hp1]
    refine ⟨?_, ?_, ?_⟩
    · simp [Syn.inner, hdp]
      exact .old rfl
    · simp [Syn.inner, hdp, hp1]
    · intro j x hjp hj
      simp [hj, hjp, old j x hj]
  | true =>
    have hd30 := (deeper_no hdp).1
    have hw1 : IntKind.i64.wrap (d + 1) = d + 1 := IntWalk.i64_in _ (by omega)
    have hB := hb hd30
    simp [hp1, Ne.symm hp1, hw1]
    refine does_use (hB _ s2 (PAt.set _) hi3) ?_
    rintro _ H2 ⟨rfl, rfl⟩
    rcases hy : below s2 with ⟨⟨op, nm, n, po, ks⟩, s4⟩
    simp [exCells_mk, hp1, Ne.symm hp1]
    refine ⟨?_, ?_, ?_⟩
    · simp [Syn.inner, hdp, hy]
      rw [exCells_mk]
      exact .old (by simp [AV.idLt, AV.allLt, kidsV_lt])
    · simp [Syn.inner, hdp, hy, hp1]
    · intro j x hjp hj
      simp [hj, hjp, old j x hj]
set_option maxHeartbeats 4000000 in
set_option maxRecDepth 100000 in
theorem p_un {W : Syn.Ws} (hW : WsOk W) {p : Nat} {d : Int} {prim below : Syn.P} (hd1 : 1 ≤ d) (hd2 : d ≤ 30) (hn : Reads G W p 388 d prim) (hb : d ≠ 30 → Reads G W p 387 (d + 1) below) :
    Reads G W p 387 d (Syn.un W prim (decide (d = 30)) below) := by
  intro H s h hi
  refine PRes.deep h ?_
  refine Does.wf Tryz.call387 fun hw _ => ?_
  have old : ∀ j x, H.get j = some x → j ≠ H.next ∧ j ≠ H.next + 1 ∧ j ≠ H.next + 1 + 1 ∧ j ≠ H.next + 1 + 1 + 1 := fun j x hj => by have := next_lt hw hj; omega
  refine does_f Tryz.call387 Tryz.func387 rfl (by simp [Tryz.f387]) ?_
  obtain ⟨hp1, hp2, hp3, hp4⟩ := old _ _ h
  have hq1 := Ne.symm hp1
  have hq2 := Ne.symm hp2
  have hq3 := Ne.symm hp3
  have hq4 := Ne.symm hp4
  have m1 : H.next ≠ H.next + 1 := by omega
  have m2 : H.next ≠ H.next + 1 + 1 := by omega
  have m3 : H.next ≠ H.next + 1 + 1 + 1 := by omega
  have m4 : H.next + 1 ≠ H.next + 1 + 1 + 1 := by omega
  have m5 : H.next + 1 + 1 + 1 ≠ H.next := by omega
  simp
  refine does_use (p_one (W := W) (s := s) (by unfold PAt; simp [hp1, hp2]; exact h) hi [[110, 111, 116], [45], [112, 114, 101]] (H.next + 1) 3 false (by simp) (by simp)) ?_
  rintro _ H1 ⟨rfl, rfl⟩
  by_cases ho : Syn.one W s [[110, 111, 116], [45], [112, 114, 101]] = true
  · have hk1 := one_kind ho
    simp [ho]
    refine does_use (p_part hW (W := W) (s := s) (by unfold PAt; simp [hp1, hp2]; exact h) hi) ?_
    rintro _ H2 ⟨rfl, rfl⟩
    have hi2 := part_ok hW hi hk1.2
    obtain ⟨opn, hopn⟩ : ∃ opn, opn = if (Syn.at_ W s).2.text = [45] then [110, 101, 103] else (Syn.at_ W s).2.text := ⟨_, rfl⟩
    have main : ∀ (c : Bool), c = decide ((Syn.at_ W s).2.text = [45]) → True := fun _ _ => trivial
    by_cases ht : (Syn.at_ W s).2.text = [45]
    all_goals
      simp [ht] at hopn
      subst hopn
      simp [wdCells, ht, text_beq]
      refine does_use (p_deeper (W := W) (s := Syn.part W s) (by unfold PAt; simp [hp1, hp2, hp3, hq1, hq2, hq3]) hi2 d) ?_
      rintro _ H3 ⟨rfl, rfl⟩
      rcases hdp : Syn.deeper W (decide (d = 30)) (Syn.part W s) with ⟨b, s2⟩
      have hi3 : s2.i < W.length := by
        have := deeper_i W (decide (d = 30)) (Syn.part W s)
        rw [hdp] at this
        simp only at this
        omega
      cases b with
      | false =>
        simp [hp1, hp2, hp3, hq1, hq2, hq3, m1, m2, m3, m4]
        refine ⟨?_, ?_, ?_⟩
        · simp [Syn.un, ho, hdp]
          exact .old rfl
        · simp [Syn.un, ho, hdp, hp1, hp2, hp3]
        · intro j x hjp hj
          obtain ⟨k1, k2, k3, k4⟩ := old j x hj
          simp [hj, hjp, k1, k2, k3, k4]
      | true =>
        have hd30 := (deeper_no hdp).1
        have hw1 : IntKind.i64.wrap (d + 1) = d + 1 := IntWalk.i64_in _ (by omega)
        have hB := hb hd30
        simp [hp1, hp2, hp3, hq1, hq2, hq3, m1, m2, m3, m4]
        refine aw_drawn [(2, 0), (2, 7)] mixedOrders (by kernel_rfl) ?_
        intro es hes
        simp [hp1, hp2, hp3, hq1, hq2, hq3, m1, m2, m3, m4, hw1]
        refine ⟨_, _, hB _ s2 (by unfold PAt; simp) hi3, by simp, ?_⟩
        rcases hy : below s2 with ⟨⟨op2, nm2, n2, po2, ks2⟩, s4⟩
        simp [exCells_mk, hp1, hp2, hp3, hp4, hq1, hq2, hq3, hq4, m1, m2, m3, m4, m5, rds, heapF]
        refine ⟨?_, ?_, ?_, ?_⟩
        · subst hes
          exact ⟨by kernel_rfl, by kernel_rfl⟩
        · simp [Syn.un, ho, hdp, hy, ht]
          rw [exCells_mk]
          refine .agg (.cons (.old rfl) (.cons (.old rfl) (.cons (.old rfl) (.cons (.old rfl) (.cons ?_ .nil)))))
          have hkk : kidsV [Syn.Ex.mk op2 nm2 n2 po2 ks2] = .vsl (exsCells [Syn.Ex.mk op2 nm2 n2 po2 ks2]) 1 := rfl
          rw [hkk]
          refine .sl (cs := exsCells [Syn.Ex.mk op2 nm2 n2 po2 ks2]) (by omega) ?_ ?_
          · simp [exsCells, exCells_mk, hp4, hq4, m1, m2, m3, m4, m5]
          · simp only [exsCells, exCells_mk]
            exact .old (by simp [AV.allLt, AV.idLt, kidsV_lt])
        · simp [Syn.un, ho, hdp, hy, hp1, hp2, hp3, hp4]
        · intro j x hjp hj
          obtain ⟨k1, k2, k3, k4⟩ := old j x hj
          simp [hj, hjp, k1, k2, k3, k4]
  · have ho' : Syn.one W s [[110, 111, 116], [45], [112, 114, 101]] = false := by simpa using ho
    simp [ho']
    refine does_use (hn _ s (by unfold PAt; simp [hp1, hp2]; exact h) hi) ?_
    rintro _ H2 ⟨rfl, rfl⟩
    rcases hy : prim s with ⟨⟨op, nm, n, po, ks⟩, s4⟩
    simp [exCells_mk, hp1, hp2, hq1, hq2, m1]
    refine ⟨?_, ?_, ?_⟩
    · simp [Syn.un, ho', hy]
      rw [exCells_mk]
      exact .old (by simp [AV.idLt, AV.allLt, kidsV_lt])
    · simp [Syn.un, ho', hy, hp1, hp2]
    · intro j x hjp hj
      obtain ⟨k1, k2, k3, k4⟩ := old j x hj
      simp [hj, hjp, k1, k2, k3, k4]
end Go.Proofs.YtnhomjhfaoipmaaGreatDoor

namespace Go.Proofs.YtnhomjhfaoipmaaGreatDoor
open Go Go.Abs Go.Lex
set_option linter.unusedSimpArgs false
variable {G : Nat → Option AV}
theorem part_mu {W : Syn.Ws} {s : Syn.St} (hi : s.i < W.length) (h0 : s.err = 0) : mu W (Syn.part W s) < mu W s := by
  have e1 : mu W s = W.length - s.i := by unfold mu; rw [if_pos h0]
  rw [e1]
  unfold Syn.part
  simp only
  by_cases hc : 300 < Syn.wrap (s.parts + 1)
  · simp only [hc, if_true]
    have := fail_err W (e := 2) (by omega) { s with parts := Syn.wrap (s.parts + 1) }
    rw [if_neg this]
    unfold mu
    rw [if_neg this]
    omega
  · simp only [hc, if_false, h0, if_true]
    unfold mu
    simp only [h0, if_true]
    omega
set_option maxHeartbeats 4000000 in
set_option maxRecDepth 100000 in
theorem p_cmp {W : Syn.Ws} (hW : WsOk W) {p : Nat} {d : Int} {next : Syn.P} (hn : Reads G W p 363 d next) (hk : Keeps W next) : Reads G W p 345 d (Syn.cmp W next) := by
  intro H s h hi
  refine PRes.deep h ?_
  refine Does.wf Tryz.call345 fun hw _ => ?_
  have old : ∀ j x, H.get j = some x → j ≠ H.next ∧ j ≠ H.next + 1 ∧ j ≠ H.next + 1 + 1 ∧ j ≠ H.next + 1 + 1 + 1 ∧ j ≠ H.next + 1 + 1 + 1 + 1 := fun j x hj => by have := next_lt hw hj; omega
  refine does_f Tryz.call345 Tryz.func345 rfl (by simp [Tryz.f345]) ?_
  obtain ⟨hp1, hp2, hp3, hp4, hp5⟩ := old _ _ h
  have hq1 := Ne.symm hp1
  have hq2 := Ne.symm hp2
  have hq3 := Ne.symm hp3
  have hq4 := Ne.symm hp4
  have hq5 := Ne.symm hp5
  have m1 : H.next ≠ H.next + 1 := by omega
  have m2 : H.next ≠ H.next + 1 + 1 := by omega
  have m3 : H.next ≠ H.next + 1 + 1 + 1 := by omega
  have m4 : H.next + 1 ≠ H.next + 1 + 1 + 1 := by omega
  have m5 : H.next + 1 + 1 + 1 ≠ H.next := by omega
  have m6 : H.next ≠ H.next + 1 + 1 + 1 + 1 := by omega
  have m7 : H.next + 1 ≠ H.next + 1 + 1 + 1 + 1 := by omega
  have m8 : H.next + 1 + 1 + 1 + 1 ≠ H.next := by omega
  have m9 : H.next + 1 + 1 + 1 + 1 ≠ H.next + 1 := by omega
  simp
  refine does_use (hn _ s (by unfold PAt; simp [hp1]; exact h) hi) ?_
  rintro _ H1 ⟨rfl, rfl⟩
  have hi1 := hk.i s hi
  rcases hx : next s with ⟨⟨op, nm, n, po, ks⟩, s1⟩
  rw [hx] at hi1
  simp only at hi1
  simp [exCells_mk, hp1, hq1]
  refine does_use (p_one (W := W) (s := s1) (by unfold PAt; simp [hp2, hp3]) hi1 [[61], [60, 62], [60], [60, 61], [62], [62, 61]] (H.next + 1 + 1) 6 false (by simp) (by simp)) ?_
  rintro _ H2 ⟨rfl, rfl⟩
  by_cases ho : Syn.one W s1 [[61], [60, 62], [60], [60, 61], [62], [62, 61]] = true
  · have hk1 := one_kind ho
    simp [ho]
    refine does_use (p_part hW (W := W) (s := s1) (by unfold PAt; simp [hp2, hp3]) hi1) ?_
    rintro _ H3 ⟨rfl, rfl⟩
    have hi2 := part_ok hW hi1 hk1.2
    simp [wdCells, hp1, hp2, hp3, hp4, hq1, hq2, hq3, hq4, m1, m2, m3, m4]
    refine aw_drawn [(1, 0), (1, 8), (3, 0), (3, 8), (4, 0), (4, 8)] mixedOrders (by kernel_rfl) ?_
    intro es hes
    simp [hp1, hp2, hp3, hp4, hq1, hq2, hq3, hq4, m1, m2, m3, m4]
    refine ⟨_, _, hn _ (Syn.part W s1) (by unfold PAt; simp [hp4]) hi2, by simp, ?_⟩
    rcases hy : next (Syn.part W s1) with ⟨⟨op2, nm2, n2, po2, ks2⟩, s4⟩
    simp [exCells_mk, hp1, hp2, hp3, hp4, hp5, hq1, hq2, hq3, hq4, hq5, m1, m2, m3, m4, m5, m6, m7, m8, m9, rds, heapF]
    refine ⟨?_, ?_, ?_, ?_⟩
    · subst hes
      exact ⟨by kernel_rfl, by kernel_rfl⟩
    · simp [Syn.cmp, hx, ho, hy]
      rw [exCells_mk]
      refine .agg (.cons (.old rfl) (.cons (.old rfl) (.cons (.old rfl) (.cons (.old rfl) (.cons ?_ .nil)))))
      have hkk : kidsV [Syn.Ex.mk op nm n po ks, Syn.Ex.mk op2 nm2 n2 po2 ks2] = .vsl (exsCells [Syn.Ex.mk op nm n po ks, Syn.Ex.mk op2 nm2 n2 po2 ks2]) 2 := rfl
      rw [hkk]
      refine .sl (cs := exsCells [Syn.Ex.mk op nm n po ks, Syn.Ex.mk op2 nm2 n2 po2 ks2]) (by omega) ?_ ?_
      · simp [exsCells, exCells_mk, hp5, hq5, m1, m2, m3, m4, m5, m6, m7, m8, m9]
      · simp only [exsCells, exCells_mk]
        exact .old (by simp [AV.allLt, AV.idLt, kidsV_lt])
    · simp [Syn.cmp, hx, ho, hy, hp1, hp2, hp3, hp4, hp5]
    · intro j x hjp hj
      obtain ⟨k1, k2, k3, k4, k5⟩ := old j x hj
      simp [hj, hjp, k1, k2, k3, k4, k5]
  · have ho' : Syn.one W s1 [[61], [60, 62], [60], [60, 61], [62], [62, 61]] = false := by simpa using ho
    simp [ho', hp1, hp2, hp3, hq1, hq2, hq3, m1, m2]
    refine ⟨?_, ?_, ?_⟩
    · simp [Syn.cmp, hx, ho']
      rw [exCells_mk]
      exact .old (by simp [AV.idLt, AV.allLt, kidsV_lt])
    · simp [Syn.cmp, hx, ho', hp1, hp2, hp3]
    · intro j x hjp hj
      obtain ⟨k1, k2, k3, k4, k5⟩ := old j x hj
      simp [hj, hjp, k1, k2, k3]
def ExAt (H : AHeap) (c n : Nat) (e : Syn.Ex) : Prop := ∃ (op nm : Bs) (k po : Int) (kv : AV), H.get c = some (.cells [.str op, .str nm, .int .i64 k, .int .i64 po, kv]) ∧ kv.scalar = true ∧ kv.cells = [kv] ∧ ResL H.get n [.str op, .str nm, .int .i64 k, .int .i64 po, kv] (exCells e)
set_option maxHeartbeats 4000000 in
set_option maxRecDepth 100000 in
theorem p_row {W : Syn.Ws} (hW : WsOk W) {p : Nat} {nf : FuncId} {d : Int} {next : Syn.P} (hn : Reads G W p nf d next) (hk : Keeps W next) (H : AHeap) (s : Syn.St) (h : PAt H p W s) (hi : s.i < W.length)
    (ts : List Bs) (j cap : Nat) (opn : Bool) (hj : H.get j = some (.cells (ts.map .str))) (hjp : j ≠ p) (hl : ts.length ≤ 1000) :
    Does Tryz.prog G 318 [.ptr p 0, .int .i64 d, .func (.func nf) [.ptr p 0] [], .sl j 0 1 ts.length cap opn] H fun r H' => r = .agg (exCells (Syn.row W next ts s).1) ∧ H' = H.set p (.cells (stCells W (Syn.row W next ts s).2)) := by
  refine PRes.deep h ?_
  refine Does.wf Tryz.call318 fun hw _ => ?_
  have old : ∀ j x, H.get j = some x → j < H.next := fun j x hj => next_lt hw hj
  refine does_f Tryz.call318 Tryz.func318 rfl (by simp [Tryz.f318]) ?_
  have hpl := old _ _ h
  have hjl := old _ _ hj
  have hp1 : p ≠ H.next := by omega
  have hp2 : p ≠ H.next + 1 := by omega
  have hq1 := Ne.symm hp1
  have hq2 := Ne.symm hp2
  have hj1 : j ≠ H.next := by omega
  have hj2 : j ≠ H.next + 1 := by omega
  have m1 : H.next ≠ H.next + 1 := by omega
  simp
  refine does_use (hn _ s (by unfold PAt; simp [hp1]; exact h) hi) ?_
  rintro _ H1 ⟨rfl, rfl⟩
  have hi1 := hk.i s hi
  rcases hx : next s with ⟨⟨op, nm, n, po, ks⟩, s1⟩
  rw [hx] at hi1
  simp only at hi1
  simp [exCells_mk, hp1, hq1]
  refine aws_loopw (fun m T' H' => ∃ e s', Syn.rowL W next ts m e s' = Syn.rowL W next ts (W.length + 1) (.mk op nm n po ks) s1 ∧ mu W s' < m ∧ s'.i < W.length ∧
    T' 0 = .ptr p 0 ∧ T' 1 = .int .i64 d ∧ T' 2 = .func (.func nf) [.ptr p 0] [] ∧ T' 3 = .sl j 0 1 ts.length cap opn ∧ T' 8 = .ptr H.next 0 ∧ T' 9 = .ptr (H.next + 1) 0 ∧ PAt H' p W s' ∧ ExAt H' (H.next + 1) (H.next + 2) e ∧
    H'.get H.next = some (.cells [.str [], .str [], .int .i64 0, .int .i64 0, .nilsl]) ∧ (∀ x y, x ≠ p → H.get x = some y → H'.get x = some y)) (W.length + 1) ?_ ?_
  · refine ⟨_, _, rfl, ?_, hi1, by simp, by simp, by simp, by simp, by simp, by simp, by unfold PAt; simp [hp2], ?_, by simp [hp1, hq1], fun x y hxp hxy => ?_⟩
    · unfold mu; split <;> omega
    · refine ⟨op, nm, n, po, kidsV ks, by simp, by simp, by simp, ?_⟩
      rw [exCells_mk]
      exact .old (by simp [AV.idLt, AV.allLt, kidsV_lt])
    · have := old x y hxy
      have k1 : x ≠ H.next := by omega
      have k2 : x ≠ H.next + 1 := by omega
      simp [hxy, hxp, k1, k2]
  rintro m T H1 ⟨e, s', hrow, hmu, hi', t0, t1, t2, t3, t8, t9, hP, ⟨eo, en, ek, ep, kv, hE, hkv1, hkv2, hres⟩, hZ, hkeep⟩ hw1 _
  have hjj := hkeep _ _ hjp hj
  have hN := next_lt hw1 hE
  have hp3 : p ≠ H1.next := by omega
  have hp4 : p ≠ H1.next + 1 := by omega
  have hq3 := Ne.symm hp3
  have hq4 := Ne.symm hp4
  have n1 : H.next ≠ H1.next := by omega
  have n2 : H.next + 1 ≠ H1.next := by omega
  have n3 : H.next ≠ H1.next + 1 := by omega
  have n4 : H.next + 1 ≠ H1.next + 1 := by omega
  have n5 := Ne.symm n1
  have n6 := Ne.symm n2
  have n7 := Ne.symm n3
  have n8 := Ne.symm n4
  obtain ⟨k, rfl⟩ : ∃ k, m = k + 1 := ⟨m - 1, by omega⟩
  simp [t0, t1, t2, t3, t8, t9]
  refine does_use (p_one hP hi' ts j cap opn hjj hl) ?_
  rintro _ H2 ⟨rfl, rfl⟩
  by_cases ho : Syn.one W s' ts = true
  · have hk1 := one_kind ho
    simp [ho, t0, t1, t2, t3, t8, t9]
    refine does_use (p_part hW hP hi') ?_
    rintro _ H3 ⟨rfl, rfl⟩
    have hi2 := part_ok hW hi' hk1.2
    simp [wdCells, t0, t1, t2, t3, t8, t9, hp3, hq3]
    refine aw_drawn [(1, 0), (1, 8), (3, 0), (3, 8), (4, 0), (4, 8)] mixedOrders (by kernel_rfl) ?_
    intro es hes
    simp [t0, t1, t2, t3, t8, t9, hp1, hp2, hp3, hq1, hq2, hq3, n1, n2, n5, n6, hE]
    refine ⟨_, _, hn _ (Syn.part W s') (by unfold PAt; simp [hp3]) hi2, by simp, ?_⟩
    have hi4 := hk.i (Syn.part W s') hi2
    have hm4 := hk.mu (Syn.part W s') hi2
    rcases hy : next (Syn.part W s') with ⟨⟨op2, nm2, n2', po2, ks2⟩, s4⟩
    rw [hy] at hi4 hm4
    simp only at hi4 hm4
    simp [exCells_mk, t0, t1, t2, t3, t8, t9, hp1, hp2, hp3, hp4, hq1, hq2, hq3, hq4, n1, n2, n3, n4, n5, n6, n7, n8, hE, hkv1, hkv2, hZ, rds, heapF]
    refine ⟨?_, ?_⟩
    · subst hes
      exact ⟨by kernel_rfl, by kernel_rfl⟩
    have hm5 := part_mu hi' hk1.1
    have hlt1 := old _ _ h
    refine ⟨k, by omega, .mk (Syn.at_ W s').2.text [] 0 (Syn.at_ W s').1 [e, .mk op2 nm2 n2' po2 ks2], s4, by rw [← hrow]; simp [Syn.rowL, ho, hy], by omega, hi4, ?_, ?_, ?_⟩
    · unfold PAt
      simp [hp2, hp3, hp4]
    · refine ⟨_, _, _, _, _, by simp; exact ⟨rfl, rfl, rfl, rfl, rfl⟩, rfl, rfl, ?_⟩
      rw [exCells_mk]
      refine .cons (.old rfl) (.cons (.old rfl) (.cons (.old rfl) (.cons (.old rfl) (.cons ?_ .nil))))
      have hkk : kidsV [e, Syn.Ex.mk op2 nm2 n2' po2 ks2] = .vsl (exsCells [e, Syn.Ex.mk op2 nm2 n2' po2 ks2]) 2 := rfl
      rw [hkk]
      refine .sl (cs := [AV.str eo, AV.str en, AV.int IntKind.i64 ek, AV.int IntKind.i64 ep, kv, AV.str op2, AV.str nm2, AV.int IntKind.i64 ↑n2', AV.int IntKind.i64 ↑po2, kidsV ks2]) (by omega) (by simp [n1, n2, n3, n4, n5, n6, n7, n8, hp4, hq4]) ?_
      simp only [exsCells, List.append_nil]
      have hr2 := ResL.mono (g' := ((((((H2.set p (AObj.cells (stCells W (Syn.part W s')))).push (AObj.cells [AV.int IntKind.i64 0, AV.str [], AV.int IntKind.i64 0, AV.int IntKind.i64 0])).set H2.next (AObj.cells [AV.int IntKind.i64 ↑(Syn.at_ W s').snd.kind, AV.str (Syn.at_ W s').snd.text, AV.int IntKind.i64 ↑(Syn.at_ W s').snd.n, AV.int IntKind.i64 ↑(Syn.at_ W s').fst])).set p (AObj.cells (stCells W s4))).push (AObj.cells [AV.str eo, AV.str en, AV.int IntKind.i64 ek, AV.int IntKind.i64 ep, kv, AV.str op2, AV.str nm2, AV.int IntKind.i64 ↑n2', AV.int IntKind.i64 ↑po2, kidsV ks2])).set (H.next + 1) (AObj.cells [AV.str (Syn.at_ W s').snd.text, AV.str [], AV.int IntKind.i64 0, AV.int IntKind.i64 ↑(Syn.at_ W s').fst, AV.sl (H2.next + 1) 0 5 2 2 false])).get) (fun i cs hi hc => by
        have := next_lt hw1 hc
        have k1 : i ≠ H.next + 1 := by omega
        have k2 : i ≠ H2.next := by omega
        have k3 : i ≠ H2.next + 1 := by omega
        have k4 : i ≠ p := by omega
        simp [k1, k2, k3, k4, hc]) hres
      have hr3 : ResL ((((((H2.set p (AObj.cells (stCells W (Syn.part W s')))).push (AObj.cells [AV.int IntKind.i64 0, AV.str [], AV.int IntKind.i64 0, AV.int IntKind.i64 0])).set H2.next (AObj.cells [AV.int IntKind.i64 ↑(Syn.at_ W s').snd.kind, AV.str (Syn.at_ W s').snd.text, AV.int IntKind.i64 ↑(Syn.at_ W s').snd.n, AV.int IntKind.i64 ↑(Syn.at_ W s').fst])).set p (AObj.cells (stCells W s4))).push (AObj.cells [AV.str eo, AV.str en, AV.int IntKind.i64 ek, AV.int IntKind.i64 ep, kv, AV.str op2, AV.str nm2, AV.int IntKind.i64 ↑n2', AV.int IntKind.i64 ↑po2, kidsV ks2])).set (H.next + 1) (AObj.cells [AV.str (Syn.at_ W s').snd.text, AV.str [], AV.int IntKind.i64 0, AV.int IntKind.i64 ↑(Syn.at_ W s').fst, AV.sl (H2.next + 1) 0 5 2 2 false])).get (H.next + 2) [.str op2, .str nm2, .int .i64 n2', .int .i64 po2, kidsV ks2] (exCells (.mk op2 nm2 n2' po2 ks2)) := by
        rw [exCells_mk]
        exact .old (by simp [AV.allLt, AV.idLt, kidsV_lt])
      exact hr2.append hr3
    · intro x y hxp hxy
      have := old x y hxy
      have k1 : x ≠ H.next + 1 := by omega
      have k2 : x ≠ H2.next := by omega
      have k3 : x ≠ H2.next + 1 := by omega
      simp [hxp, k1, k2, k3, hkeep x y hxp hxy]
  · have ho' : Syn.one W s' ts = false := by simpa using ho
    have hfin : Syn.row W next ts s = (e, s') := by
      simp only [Syn.row, hx]
      rw [← hrow]
      simp [Syn.rowL, ho']
    simp [ho', t0, t1, t2, t3, t8, t9, hE, hZ, hkv1, hkv2, m1]
    refine ⟨?_, ?_, ?_⟩
    · rw [hfin]
      refine .agg (ResL.down (n := H.next + 2) (by omega) (ResL.mono (fun i cs hi hc => ?_) hres) (exCells_lt _ _))
      have : i ≠ H.next := by omega
      simp [this, hc]
    · rw [hfin]
      simp [hp1]
      exact hP
    · intro x y hxp hxy
      have := old x y hxy
      have k1 : x ≠ H.next := by omega
      simp [k1, hkeep x y hxp hxy]
end Go.Proofs.YtnhomjhfaoipmaaGreatDoor

namespace Go.Proofs.YtnhomjhfaoipmaaGreatDoor
open Go Go.Abs Go.Lex
set_option linter.unusedSimpArgs false
variable {G : Nat → Option AV}
theorem mu_fail (W : Syn.Ws) {e : Nat} (he : e ≠ 0) (s : Syn.St) : mu W (Syn.fail W e s) ≤ mu W s := by
  have := fail_err W he s
  unfold mu
  rw [if_neg this]
  omega
theorem mu_succ (W : Syn.Ws) (s : Syn.St) : mu W { s with i := s.i + 1 } ≤ mu W s := by
  unfold mu
  simp only
  split <;> omega
theorem take_mu (W : Syn.Ws) (s : Syn.St) (t : Bs) : mu W (Syn.take W s t).2 ≤ mu W s := by
  unfold Syn.take
  split
  · exact mu_succ W s
  · exact Nat.le_refl _
theorem want1_mu (W : Syn.Ws) (s : Syn.St) (t : Bs) : mu W (Syn.want1 W s t) ≤ mu W s := by
  unfold Syn.want1
  split
  · exact mu_succ W s
  · exact mu_fail W (by omega) s
theorem name_mu (W : Syn.Ws) (s : Syn.St) : mu W (Syn.name W s).2 ≤ mu W s := by
  unfold Syn.name
  by_cases hk : Syn.kind W s = 1
  · simp only [hk, if_true]
    split
    · exact mu_succ W s
    · exact Nat.le_refl _
  · simp only [hk, if_false]
    rw [if_neg (fail_err W (by omega) s)]
    exact mu_fail W (by omega) s
theorem deeper_mu (W : Syn.Ws) (b : Bool) (s : Syn.St) : mu W (Syn.deeper W b s).2 ≤ mu W s := by
  unfold Syn.deeper
  simp only
  split
  · exact mu_fail W (by omega) s
  · exact Nat.le_refl _
theorem part_mu' {W : Syn.Ws} (s : Syn.St) : mu W (Syn.part W s) ≤ mu W s := by
  by_cases h0 : s.err = 0
  · by_cases hi : s.i < W.length
    · exact Nat.le_of_lt (part_mu hi h0)
    · unfold Syn.part
      simp only
      by_cases hc : 300 < Syn.wrap (s.parts + 1)
      · simp only [hc, if_true]
        have := fail_err W (e := 2) (by omega) { s with parts := Syn.wrap (s.parts + 1) }
        rw [if_neg this]
        unfold mu
        rw [if_neg this]
        omega
      · simp only [hc, if_false, h0, if_true]
        unfold mu
        simp only [h0, if_true]
        omega
  · unfold Syn.part
    simp only
    by_cases hc : 300 < Syn.wrap (s.parts + 1)
    · simp only [hc, if_true]
      have := fail_err W (e := 2) (by omega) { s with parts := Syn.wrap (s.parts + 1) }
      rw [if_neg this]
      unfold mu
      rw [if_neg this]
      omega
    · simp only [hc, if_false, h0]
      unfold mu
      simp only [h0, if_false]
      omega
set_option maxHeartbeats 4000000 in
set_option maxRecDepth 100000 in
theorem p_when {W : Syn.Ws} (hW : WsOk W) {p : Nat} {d : Int} {next : Syn.P} (hn : Reads G W p 387 d next) (hk : Keeps W next) : Reads G W p 386 d (Syn.when_ W next) := by
  intro H s h hi
  refine PRes.deep h ?_
  refine Does.wf Tryz.call386 fun hw _ => ?_
  have old : ∀ j x, H.get j = some x → j < H.next := fun j x hj => next_lt hw hj
  refine does_f Tryz.call386 Tryz.func386 rfl (by simp [Tryz.f386]) ?_
  have hpl := old _ _ h
  have hp1 : p ≠ H.next := by omega
  have hp2 : p ≠ H.next + 1 := by omega
  have hq1 := Ne.symm hp1
  have hq2 := Ne.symm hp2
  have m1 : H.next ≠ H.next + 1 := by omega
  simp
  refine does_use (hn _ s (by unfold PAt; simp [hp1]; exact h) hi) ?_
  rintro _ H1 ⟨rfl, rfl⟩
  have hi1 := hk.i s hi
  rcases hx : next s with ⟨⟨op, nm, n, po, ks⟩, s1⟩
  rw [hx] at hi1
  simp only at hi1
  simp [exCells_mk, hp1, hq1]
  refine aws_loopw (fun m T' H' => ∃ e s', Syn.whenL W m e s' = Syn.whenL W (W.length + 1) (.mk op nm n po ks) s1 ∧ mu W s' < m ∧ s'.i < W.length ∧
    T' 0 = .ptr p 0 ∧ T' 1 = .int .i64 d ∧ T' 4 = .ptr H.next 0 ∧ T' 5 = .ptr (H.next + 1) 0 ∧ PAt H' p W s' ∧ ExAt H' (H.next + 1) (H.next + 2) e ∧
    H'.get H.next = some (.cells [.str [], .str [], .int .i64 0, .int .i64 0, .nilsl]) ∧ (∀ x y, x ≠ p → H.get x = some y → H'.get x = some y)) (W.length + 1) ?_ ?_
  · refine ⟨_, _, rfl, ?_, hi1, by simp, by simp, by simp, by simp, by unfold PAt; simp [hp2], ?_, by simp [hp1, hq1], fun x y hxp hxy => ?_⟩
    · unfold mu; split <;> omega
    · refine ⟨op, nm, n, po, kidsV ks, by simp, by simp, by simp, ?_⟩
      rw [exCells_mk]
      exact .old (by simp [AV.idLt, AV.allLt, kidsV_lt])
    · have := old x y hxy
      have k1 : x ≠ H.next := by omega
      have k2 : x ≠ H.next + 1 := by omega
      simp [hxy, hxp, k1, k2]
  rintro m T H1 ⟨e, s', hrow, hmu, hi', t0, t1, t4, t5, hP, ⟨eo, en, ek, ep, kv, hE, hkv1, hkv2, hres⟩, hZ, hkeep⟩ hw1 _
  have hN := next_lt hw1 hE
  have hp3 : p ≠ H1.next := by omega
  have hp4 : p ≠ H1.next + 1 := by omega
  have hq3 := Ne.symm hp3
  have hq4 := Ne.symm hp4
  have n1 : H.next ≠ H1.next := by omega
  have n2 : H.next + 1 ≠ H1.next := by omega
  have n3 : H.next ≠ H1.next + 1 := by omega
  have n4 : H.next + 1 ≠ H1.next + 1 := by omega
  have n5 := Ne.symm n1
  have n6 := Ne.symm n2
  have n7 := Ne.symm n3
  have n8 := Ne.symm n4
  obtain ⟨k, rfl⟩ : ∃ k, m = k + 1 := ⟨m - 1, by omega⟩
  simp [t0, t1, t4, t5]
  refine does_use (p_is hP hi' [119, 104, 101, 110]) ?_
  rintro _ H2 ⟨rfl, rfl⟩
  by_cases ho : Syn.is W s' [119, 104, 101, 110] = true
  · have hk1 := is_kind ho
    simp [ho, t0, t1, t4, t5]
    refine does_use (p_part hW hP hi') ?_
    rintro _ H3 ⟨rfl, rfl⟩
    have hi2 := part_ok hW hi' hk1.2
    have hm5 := part_mu hi' hk1.1
    simp [wdCells, t0, t1, t4, t5, hp3, hq3]
    refine does_use (p_take hW (W := W) (s := Syn.part W s') (by unfold PAt; simp [hp3]) hi2 [110, 111, 116]) ?_
    rintro _ H3 ⟨rfl, rfl⟩
    have hi3 := take_ok hW hi2 [110, 111, 116]
    have hm6 := take_mu W (Syn.part W s') [110, 111, 116]
    rcases htk : Syn.take W (Syn.part W s') [110, 111, 116] with ⟨b, s2⟩
    rw [htk] at hi3 hm6
    simp only at hi3 hm6
    have hi4 := name_ok hW hi3
    have hm7 := name_mu W s2
    rcases hnm : Syn.name W s2 with ⟨nm2, s4⟩
    rw [hnm] at hi4 hm7
    simp only at hi4 hm7
    obtain ⟨nn, hnn⟩ : ∃ nn : Nat, nn = if b then 0 else 1 := ⟨_, rfl⟩
    cases b
    all_goals
      simp at hnn
      simp [t0, t1, t4, t5, hp3, hq3]
      refine aw_drawn [(4, 0), (4, 2), (5, 0), (5, 2)] mixedOrders (by kernel_rfl) ?_
      intro es hes
      simp [t0, t1, t4, t5, hp1, hp2, hp3, hq1, hq2, hq3, n1, n2, n5, n6, hE]
      refine ⟨_, _, p_name hW (W := W) (s := s2) (by unfold PAt; simp) hi3, by simp, ?_⟩
      simp [hnm, exCells_mk, t0, t1, t4, t5, hp1, hp2, hp3, hp4, hq1, hq2, hq3, hq4, n1, n2, n3, n4, n5, n6, n7, n8, hE, hkv1, hkv2, hZ, rds, heapF]
      refine ⟨?_, ?_⟩
      · subst hes
        exact ⟨by kernel_rfl, by kernel_rfl⟩
      refine ⟨k, by omega, .mk [119, 104, 101, 110] nm2 nn (Syn.at_ W s').1 [e], s4, by rw [← hrow]; simp [Syn.whenL, ho, htk, hnm, hnn], by omega, hi4, ?_, ?_, ?_⟩
      · unfold PAt
        simp [hp2, hp3, hp4]
      · refine ⟨_, _, _, _, _, by simp; exact ⟨rfl, rfl, rfl, rfl, rfl⟩, rfl, rfl, ?_⟩
        rw [exCells_mk, hnn]
        refine .cons (.old rfl) (.cons (.old rfl) (.cons (.old rfl) (.cons (.old rfl) (.cons ?_ .nil))))
        have hkk : kidsV [e] = .vsl (exsCells [e]) 1 := rfl
        rw [hkk]
        refine .sl (cs := [AV.str eo, AV.str en, AV.int IntKind.i64 ek, AV.int IntKind.i64 ep, kv]) (by omega) (by simp [n1, n2, n3, n4, n5, n6, n7, n8, hp4, hq4]) ?_
        simp only [exsCells, List.append_nil]
        refine ResL.mono (fun i cs hi hc => ?_) hres
        have := next_lt hw1 hc
        have k1 : i ≠ H.next + 1 := by omega
        have k2 : i ≠ H2.next := by omega
        have k3 : i ≠ H2.next + 1 := by omega
        have k4 : i ≠ p := by omega
        simp [k1, k2, k3, k4, hc]
      · intro x y hxp hxy
        have := old x y hxy
        have k1 : x ≠ H.next + 1 := by omega
        have k2 : x ≠ H2.next := by omega
        have k3 : x ≠ H2.next + 1 := by omega
        simp [hxp, k1, k2, k3, hkeep x y hxp hxy]
  · have ho' : Syn.is W s' [119, 104, 101, 110] = false := by simpa using ho
    have hfin : Syn.when_ W next s = (e, s') := by
      simp only [Syn.when_, hx]
      rw [← hrow]
      simp [Syn.whenL, ho']
    simp [ho', t0, t1, t4, t5, hE, hZ, hkv1, hkv2, m1]
    refine ⟨?_, ?_, ?_⟩
    · rw [hfin]
      refine .agg (ResL.down (n := H.next + 2) (by omega) (ResL.mono (fun i cs hi hc => ?_) hres) (exCells_lt _ _))
      have : i ≠ H.next := by omega
      simp [this, hc]
    · rw [hfin]
      simp [hp1]
      exact hP
    · intro x y hxp hxy
      have := old x y hxy
      have k1 : x ≠ H.next := by omega
      simp [k1, hkeep x y hxp hxy]
end Go.Proofs.YtnhomjhfaoipmaaGreatDoor

namespace Go.Proofs.YtnhomjhfaoipmaaGreatDoor
open Go Go.Abs Go.Lex
set_option linter.unusedSimpArgs false
variable {G : Nat → Option AV}
theorem exCells_len (e : Syn.Ex) : (exCells e).length = 5 := by cases e; rw [exCells_mk]; rfl
theorem exsCells_len : ∀ l : List Syn.Ex, (exsCells l).length = l.length * 5
  | [] => rfl
  | e :: l => by rw [exsCells, List.length_append, exCells_len, exsCells_len l]; simp; omega
theorem exsCells_append : ∀ a b : List Syn.Ex, exsCells (a ++ b) = exsCells a ++ exsCells b
  | [], b => rfl
  | e :: a, b => by rw [List.cons_append, exsCells, exsCells, exsCells_append a b, List.append_assoc]
theorem inner_keeps {W : Syn.Ws} {b : Bool} {below : Syn.P} (hk : Keeps W below) : Keeps W (Syn.inner W b below) := by
  refine ⟨fun s hi => ?_, fun s hi => ?_⟩
  · unfold Syn.inner
    have h1 := deeper_i W b s
    rcases hd : Syn.deeper W b s with ⟨c, s1⟩
    rw [hd] at h1
    simp only at h1 ⊢
    cases c
    · simpa [h1] using hi
    · exact hk.i s1 (by omega)
  · unfold Syn.inner
    have h1 := deeper_i W b s
    have h2 := deeper_mu W b s
    rcases hd : Syn.deeper W b s with ⟨c, s1⟩
    rw [hd] at h1 h2
    simp only at h1 h2 ⊢
    cases c
    · simpa using h2
    · exact Nat.le_trans (hk.mu s1 (by omega)) h2
set_option maxHeartbeats 4000000 in
set_option maxRecDepth 100000 in
theorem p_arguments {W : Syn.Ws} (hW : WsOk W) {p : Nat} {d : Int} {inn : Syn.P} (hn : Reads G W p 389 d inn) (hk : Keeps W inn) (H : AHeap) (s : Syn.St) (h : PAt H p W s) (hi : s.i < W.length) :
    Does Tryz.prog G 391 [.ptr p 0, .int .i64 d] H fun r H' => r = kidsV (Syn.arguments W inn s).1 ∧ H' = H.set p (.cells (stCells W (Syn.arguments W inn s).2)) := by
  refine Does.deep (R := fun r H' => ResV H'.get H.next r (kidsV (Syn.arguments W inn s).1) ∧ H'.get p = some (.cells (stCells W (Syn.arguments W inn s).2)) ∧ ∀ j y, j ≠ p → H.get j = some y → H'.get j = some y) ?_ ?_
  rotate_left
  · rintro hw ha r H1 ⟨h1, h2, h3⟩
    exact ⟨_, H.set p (.cells (stCells W (Syn.arguments W inn s).2)), h1, rfl, set_back hw h h2 h3, rfl, rfl⟩
  refine Does.wf Tryz.call391 fun hw _ => ?_
  have old : ∀ j x, H.get j = some x → j < H.next := fun j x hj => next_lt hw hj
  refine does_f Tryz.call391 Tryz.func391 rfl (by simp [Tryz.f391]) ?_
  have hpl := old _ _ h
  have hp1 : p ≠ H.next := by omega
  have hq1 := Ne.symm hp1
  simp
  refine does_use (p_take hW h hi [41]) ?_
  rintro _ H1 ⟨rfl, rfl⟩
  by_cases ht : Syn.is W s [41] = true
  · simp [Syn.take, ht]
    refine ⟨?_, ?_, ?_⟩
    · simp [Syn.arguments, ht]
      exact .old rfl
    · simp [Syn.arguments, ht]
    · intro j x hjp hj
      simp [hj, hjp]
  · have ht' : Syn.is W s [41] = false := by simpa using ht
    simp [Syn.take, ht']
    refine does_use (hn _ s (PAt.set _) hi) ?_
    rintro _ H1 ⟨rfl, rfl⟩
    have hi1 := hk.i s hi
    have hm1 := hk.mu s hi
    rcases hx : inn s with ⟨⟨op, nm, n, po, ks⟩, s1⟩
    rw [hx] at hi1 hm1
    simp only at hi1 hm1
    simp [exCells_mk, hp1, hq1]
    have hsm := hW.small
    refine aws_loopw (fun m T' H' => ∃ l s' b opn, Syn.argsL W inn m l s' = Syn.argsL W inn (W.length + 1) [.mk op nm n po ks] s1 ∧ mu W s' < m ∧ s'.i < W.length ∧ l.length + m ≤ W.length + 2 ∧ l ≠ [] ∧
      T' 0 = .ptr p 0 ∧ T' 1 = .int .i64 d ∧ T' 5 = .sl b 0 5 l.length l.length opn ∧ H'.get b = some (.cells (exsCells l)) ∧ H.next ≤ b ∧ PAt H' p W s' ∧ (∀ x y, x ≠ p → H.get x = some y → H'.get x = some y)) (W.length + 1) ?_ ?_
    · refine ⟨_, _, H.next, false, rfl, ?_, hi1, by simp; omega, by simp, by simp, by simp, by simp, by simp [exsCells, exCells_mk], by omega, by unfold PAt; simp [hp1], fun x y hxp hxy => ?_⟩
      · unfold mu; split <;> omega
      · have := old x y hxy
        have k1 : x ≠ H.next := by omega
        simp [hxy, hxp, k1]
    rintro m T H1 ⟨l, s', b, opn, hargs, hmu, hi', hlm, hl0, t0, t1, t5, hb, hbn, hP, hkeep⟩ hw1 _
    have hN := next_lt hw1 hb
    have hp2 : p ≠ H1.next := by omega
    have hp3 : p ≠ H1.next + 1 := by omega
    have hq2 := Ne.symm hp2
    have hq3 := Ne.symm hp3
    have hpb : p ≠ b := by omega
    have hqb := Ne.symm hpb
    have n1 : b ≠ H1.next := by omega
    have n2 : b ≠ H1.next + 1 := by omega
    have n3 := Ne.symm n1
    have n4 := Ne.symm n2
    obtain ⟨k, rfl⟩ : ∃ k, m = k + 1 := ⟨m - 1, by omega⟩
    simp [t0, t1, t5]
    refine does_use (p_take hW hP hi' [44]) ?_
    rintro _ H2 ⟨rfl, rfl⟩
    by_cases ho : Syn.is W s' [44] = true
    · have hi2 := ok_succ hW hi' (is_kind ho).2
      have hm2 : mu W { s' with i := s'.i + 1 } < mu W s' := by
        have h0 := (is_kind ho).1
        unfold mu
        simp only [h0, if_true]
        omega
      simp [Syn.take, ho, t0, t1, t5]
      refine does_use (hn _ { s' with i := s'.i + 1 } (PAt.set _) hi2) ?_
      rintro _ H3 ⟨rfl, rfl⟩
      have hi4 := hk.i { s' with i := s'.i + 1 } hi2
      have hm4 := hk.mu { s' with i := s'.i + 1 } hi2
      rcases hy : inn { s' with i := s'.i + 1 } with ⟨⟨op2, nm2, n2', po2, ks2⟩, s4⟩
      rw [hy] at hi4 hm4
      simp only at hi4 hm4
      have hgrow : ¬ (l.length + 1 ≤ l.length) := by omega
      have g1 : (l.length + 1) * 72 ≤ 140737488355328 := by omega
      have g2 : l.length ≤ 4611686018427387903 := by omega
      have g3 : List.take (l.length * 5) (exsCells l) = exsCells l := by rw [List.take_of_length_le]; rw [exsCells_len]; omega
      have g4 : l.length * 5 ≤ (exsCells l).length := by rw [exsCells_len]; omega
      cases opn <;> simp [exCells_mk, t0, t1, t5, hb, hpb, hqb, hp2, hp3, hq2, hq3, n1, n2, n3, n4, hgrow, g1, g2, g3, g4]
      all_goals
        refine ⟨k, by omega, l ++ [.mk op2 nm2 n2' po2 ks2], s4, by rw [← hargs]; simp [Syn.argsL, ho, hy], by omega, hi4, by simp; omega, by simp, H1.next + 1, ⟨rfl, by simp⟩, by simp [exsCells_append, exsCells, exCells_mk], by omega, ?_, ?_⟩
        · unfold PAt
          simp [hp2, hp3, hpb]
        · intro x y hxp hxy
          have := old x y hxy
          have k1 : x ≠ H1.next := by omega
          have k2 : x ≠ H1.next + 1 := by omega
          have k3 : x ≠ b := by omega
          simp [hxp, k1, k2, k3, hkeep x y hxp hxy]
    · have ho' : Syn.is W s' [44] = false := by simpa using ho
      simp [Syn.take, ho', t0, t1, t5]
      refine does_use (p_want hW (W := W) (s := s') (by unfold PAt; simp [hp2]) hi' [[41]] H1.next 1 false (by simp) hq2 (by simp)) ?_
      rintro _ H2 ⟨rfl, rfl⟩
      have hfin : Syn.arguments W inn s = (l, Syn.want1 W s' [41]) := by
        simp only [Syn.arguments, ht', Bool.false_eq_true, if_false, hx]
        rw [← hargs]
        simp [Syn.argsL, ho']
      have hw1' : Syn.want W s' [[41]] = Syn.want1 W s' [41] := rfl
      have g3 : List.take (l.length * 5) (exsCells l) = exsCells l := by rw [List.take_of_length_le]; rw [exsCells_len]; omega
      have hkl : kidsV l = .vsl (exsCells l) l.length := by
        unfold kidsV
        cases l with
        | nil => exact absurd rfl hl0
        | cons a l => rfl
      simp [t0, t1, t5, hw1']
      refine ⟨?_, ?_, ?_⟩
      · rw [hfin, hkl]
        refine .sl (cs := exsCells l) (by omega) (by simp [hpb, hqb, n1, n3, hb]) ?_
        rw [List.drop_zero, g3]
        exact .old (exsCells_lt _ _)
      · rw [hfin]
      · intro x y hxp hxy
        have := old x y hxy
        have k1 : x ≠ H1.next := by omega
        simp [hxp, k1, hkeep x y hxp hxy]
end Go.Proofs.YtnhomjhfaoipmaaGreatDoor

namespace Go.Proofs.YtnhomjhfaoipmaaGreatDoor
open Go Go.Abs Go.Lex
set_option linter.unusedSimpArgs false
variable {G : Nat → Option AV}
theorem arguments_keeps {W : Syn.Ws} (hW : WsOk W) {inn : Syn.P} (hk : Keeps W inn) : (∀ s, s.i < W.length → (Syn.arguments W inn s).2.i < W.length) ∧ ∀ s, s.i < W.length → mu W (Syn.arguments W inn s).2 ≤ mu W s := by
  have hL : ∀ (m : Nat) (l : List Syn.Ex) (s : Syn.St), s.i < W.length → (Syn.argsL W inn m l s).2.i < W.length ∧ mu W (Syn.argsL W inn m l s).2 ≤ mu W s := by
    intro m
    induction m with
    | zero => intro l s hi; exact ⟨hi, Nat.le_refl _⟩
    | succ m ih =>
      intro l s hi
      unfold Syn.argsL
      split
      · rename_i ho
        have hi2 := ok_succ hW hi (is_kind ho).2
        have h1 := hk.i { s with i := s.i + 1 } hi2
        have h2 := hk.mu { s with i := s.i + 1 } hi2
        have h3 := mu_succ W s
        rcases hx : inn { s with i := s.i + 1 } with ⟨e, s2⟩
        rw [hx] at h1 h2
        simp only at h1 h2 ⊢
        obtain ⟨g1, g2⟩ := ih (l ++ [e]) s2 h1
        exact ⟨g1, Nat.le_trans g2 (Nat.le_trans h2 h3)⟩
      · exact ⟨hi, Nat.le_refl _⟩
  have key : ∀ s, s.i < W.length → (Syn.arguments W inn s).2.i < W.length ∧ mu W (Syn.arguments W inn s).2 ≤ mu W s := by
    intro s hi
    unfold Syn.arguments
    split
    · rename_i ho
      exact ⟨ok_succ hW hi (is_kind ho).2, mu_succ W s⟩
    · have h1 := hk.i s hi
      have h2 := hk.mu s hi
      rcases hx : inn s with ⟨e, s1⟩
      rw [hx] at h1 h2
      simp only at h1 h2 ⊢
      obtain ⟨g1, g2⟩ := hL (W.length + 1) [e] s1 h1
      rcases hy : Syn.argsL W inn (W.length + 1) [e] s1 with ⟨l, s2⟩
      rw [hy] at g1 g2
      simp only at g1 g2 ⊢
      exact ⟨want1_ok hW g1 _, Nat.le_trans (want1_mu W s2 _) (Nat.le_trans g2 h2)⟩
  exact ⟨fun s hi => (key s hi).1, fun s hi => (key s hi).2⟩
set_option maxHeartbeats 8000000 in
set_option maxRecDepth 100000 in
theorem p_rest {W : Syn.Ws} (hW : WsOk W) {p : Nat} {d : Int} {inn mer : Syn.P} (hn : Reads G W p 389 d inn) (hk : Keeps W inn) (hm : Reads G W p 392 d mer) (hkm : Keeps W mer)
    (H : AHeap) (s : Syn.St) (h : PAt H p W s) (hi : s.i < W.length) (w : Nat × Wd) :
    Does Tryz.prog G 390 [.ptr p 0, .agg (wdCells w.2 w.1), .int .i64 d] H fun r H' => r = .agg (exCells (Syn.rest W inn mer w s).1) ∧ H' = H.set p (.cells (stCells W (Syn.rest W inn mer w s).2)) := by
  refine PRes.deep h ?_
  refine Does.wf Tryz.call390 fun hw _ => ?_
  have old : ∀ j x, H.get j = some x → j < H.next := fun j x hj => next_lt hw hj
  refine does_f Tryz.call390 Tryz.func390 rfl (by simp [Tryz.f390]) ?_
  have hpl := old _ _ h
  have hp1 : p ≠ H.next := by omega
  have hp2 : p ≠ H.next + 1 := by omega
  have hp3 : p ≠ H.next + 1 + 1 := by omega
  have hp4 : p ≠ H.next + 1 + 1 + 1 := by omega
  have hq1 := Ne.symm hp1
  have hq2 := Ne.symm hp2
  have hq3 := Ne.symm hp3
  have hq4 := Ne.symm hp4
  have m1 : H.next ≠ H.next + 1 + 1 := by omega
  have m2 : H.next + 1 + 1 ≠ H.next := by omega
  have m3 : H.next ≠ H.next + 1 + 1 + 1 := by omega
  have m4 : H.next + 1 + 1 + 1 ≠ H.next := by omega
  have m5 : H.next + 1 ≠ H.next + 1 + 1 + 1 := by omega
  have m6 : H.next + 1 + 1 + 1 ≠ H.next + 1 := by omega
  have hP0 : ∀ H' : AHeap, H'.get p = H.get p → PAt H' p W s := fun H' e => e.trans h
  simp [wdCells]
  by_cases k3 : w.2.kind = 3
  · have k3' : ((w.2.kind : Nat) : Int) = 3 := by omega
    simp [k3', m1, m2]
    refine aw_drawn [(1, 0), (1, 4)] mixedOrders (by kernel_rfl) ?_
    intro es hes
    simp [m1, m2, rds, heapF]
    refine ⟨?_, ?_⟩
    · subst hes
      exact ⟨by kernel_rfl, by kernel_rfl⟩
    have hr : Syn.rest W inn mer w s = (.mk [105, 110, 116] [] w.2.n w.1 [], s) := by simp [Syn.rest, k3]
    rw [hr]
    refine ⟨?_, by simp [hp1, hp2, hp3]; exact h, fun j x hjp hj => ?_⟩
    · exact .old (by simp [AV.idLt, AV.allLt])
    · have := old j x hj
      have k1 : j ≠ H.next := by omega
      have k2 : j ≠ H.next + 1 := by omega
      have k4 : j ≠ H.next + 1 + 1 := by omega
      simp [hj, hjp, k1, k2, k4]
  · have k3' : ¬ ((w.2.kind : Nat) : Int) = 3 := by omega
    simp [k3', m1, m2, text_beq]
    by_cases tT : w.2.text = [116, 114, 117, 101]
    · simp [tT, m1, m2]
      have hr : Syn.rest W inn mer w s = (.mk [98, 111, 111, 108] [] 1 w.1 [], s) := by simp [Syn.rest, k3, tT]
      rw [hr]
      refine ⟨?_, by simp [hp1, hp2, hp3]; exact h, fun j x hjp hj => ?_⟩
      · exact .old (by simp [AV.idLt, AV.allLt])
      · have := old j x hj
        have k1 : j ≠ H.next := by omega
        have k2 : j ≠ H.next + 1 := by omega
        have k4 : j ≠ H.next + 1 + 1 := by omega
        simp [hj, hjp, k1, k2, k4]
    simp [tT, m1, m2, text_beq]
    by_cases tF : w.2.text = [102, 97, 108, 115, 101]
    · simp [tF, m1, m2]
      have hr : Syn.rest W inn mer w s = (.mk [98, 111, 111, 108] [] 0 w.1 [], s) := by simp [Syn.rest, k3, tT, tF]
      rw [hr]
      refine ⟨?_, by simp [hp1, hp2, hp3]; exact h, fun j x hjp hj => ?_⟩
      · exact .old (by simp [AV.idLt, AV.allLt])
      · have := old j x hj
        have k1 : j ≠ H.next := by omega
        have k2 : j ≠ H.next + 1 := by omega
        have k4 : j ≠ H.next + 1 + 1 := by omega
        simp [hj, hjp, k1, k2, k4]
    simp [tF, m1, m2, text_beq]
    by_cases k1 : w.2.kind = 1
    · have k1' : ((w.2.kind : Nat) : Int) = 1 := by omega
      simp [k1', m1, m2]
      refine aw_drawn [(1, 0), (1, 4)] mixedOrders (by kernel_rfl) ?_
      intro es hes
      simp [m1, m2, rds, heapF]
      refine ⟨?_, ?_⟩
      · subst hes
        exact ⟨by kernel_rfl, by kernel_rfl⟩
      refine does_use (p_take hW (hP0 _ (by simp [hp1, hp2, hp3])) hi [40]) ?_
      rintro _ H2 ⟨rfl, rfl⟩
      by_cases ho : Syn.is W s [40] = true
      · have hi2 := ok_succ hW hi (is_kind ho).2
        simp [Syn.take, ho, hp1, hp2, hp3, hq1, hq2, hq3]
        refine does_use (p_arguments hW hn hk _ { s with i := s.i + 1 } (by unfold PAt; simp [hp3]) hi2) ?_
        rintro _ H3 ⟨rfl, rfl⟩
        rcases hy : Syn.arguments W inn { s with i := s.i + 1 } with ⟨l, s4⟩
        simp [hp1, hp2, hp3, hq1, hq2, hq3, m1, m2]
        have hr : Syn.rest W inn mer w s = (.mk [99, 97, 108, 108] w.2.text 0 w.1 l, s4) := by simp [Syn.rest, k3, tT, tF, k1, ho, hy]
        rw [hr]
        refine ⟨?_, by simp [hp1, hp2, hp3], fun j x hjp hj => ?_⟩
        · rw [exCells_mk]
          exact .old (by simp [AV.idLt, AV.allLt, kidsV_lt])
        · have := old j x hj
          have k1 : j ≠ H.next := by omega
          have k2 : j ≠ H.next + 1 := by omega
          have k4 : j ≠ H.next + 1 + 1 := by omega
          simp [hj, hjp, k1, k2, k4]
      · have ho' : Syn.is W s [40] = false := by simpa using ho
        simp [Syn.take, ho', hp1, hp2, hp3, hq1, hq2, hq3, m1, m2]
        have hr : Syn.rest W inn mer w s = (.mk [118, 97, 114] w.2.text 0 w.1 [], s) := by simp [Syn.rest, k3, tT, tF, k1, ho']
        rw [hr]
        refine ⟨?_, by simp [hp1, hp2, hp3], fun j x hjp hj => ?_⟩
        · exact .old (by simp [AV.idLt, AV.allLt])
        · have := old j x hj
          have k1 : j ≠ H.next := by omega
          have k2 : j ≠ H.next + 1 := by omega
          have k4 : j ≠ H.next + 1 + 1 := by omega
          simp [hj, hjp, k1, k2, k4]
    have k1' : ¬ ((w.2.kind : Nat) : Int) = 1 := by omega
    simp [k1', m1, m2, text_beq]
    by_cases tI : w.2.text = [105, 102]
    · simp [tI, m1, m2]
      refine aw_drawn [(1, 0), (1, 5)] mixedOrders (by kernel_rfl) ?_
      intro es hes
      simp [m1, m2, hp1, hp2, hp3, hq1, hq2, hq3]
      refine ⟨_, _, hn _ s (hP0 _ (by simp [hp1, hp2, hp3])) hi, by simp, ?_⟩
      have hiA := hk.i s hi
      rcases hA : inn s with ⟨⟨opA, nmA, nA, poA, ksA⟩, sA⟩
      rw [hA] at hiA
      simp only at hiA
      simp [exCells_mk, m1, m2, m3, m4, m5, m6, hp1, hp2, hp3, hp4, hq1, hq2, hq3, hq4, rds, heapF]
      refine ⟨?_, ?_⟩
      · subst hes
        exact ⟨by kernel_rfl, by kernel_rfl⟩
      have c2 : H.next ≠ H.next + 1 + 1 := by omega
      have e2 : H.next + 1 + 1 ≠ H.next := by omega
      have c3 : H.next ≠ H.next + 1 + 1 + 1 := by omega
      have e3 : H.next + 1 + 1 + 1 ≠ H.next := by omega
      have c4 : H.next ≠ H.next + 1 + 1 + 1 + 1 := by omega
      have e4 : H.next + 1 + 1 + 1 + 1 ≠ H.next := by omega
      have c5 : H.next ≠ H.next + 1 + 1 + 1 + 1 + 1 := by omega
      have e5 : H.next + 1 + 1 + 1 + 1 + 1 ≠ H.next := by omega
      have c6 : H.next ≠ H.next + 1 + 1 + 1 + 1 + 1 + 1 := by omega
      have e6 : H.next + 1 + 1 + 1 + 1 + 1 + 1 ≠ H.next := by omega
      have c7 : H.next ≠ H.next + 1 + 1 + 1 + 1 + 1 + 1 + 1 := by omega
      have e7 : H.next + 1 + 1 + 1 + 1 + 1 + 1 + 1 ≠ H.next := by omega
      have c8 : H.next ≠ H.next + 1 + 1 + 1 + 1 + 1 + 1 + 1 + 1 := by omega
      have e8 : H.next + 1 + 1 + 1 + 1 + 1 + 1 + 1 + 1 ≠ H.next := by omega
      have c9 : H.next ≠ H.next + 1 + 1 + 1 + 1 + 1 + 1 + 1 + 1 + 1 := by omega
      have e9 : H.next + 1 + 1 + 1 + 1 + 1 + 1 + 1 + 1 + 1 ≠ H.next := by omega
      have c10 : H.next ≠ H.next + 1 + 1 + 1 + 1 + 1 + 1 + 1 + 1 + 1 + 1 := by omega
      have e10 : H.next + 1 + 1 + 1 + 1 + 1 + 1 + 1 + 1 + 1 + 1 ≠ H.next := by omega
      have pp5 : p ≠ H.next + 1 + 1 + 1 + 1 + 1 := by omega
      have qq5 := Ne.symm pp5
      have pp6 : p ≠ H.next + 1 + 1 + 1 + 1 + 1 + 1 := by omega
      have qq6 := Ne.symm pp6
      have pp7 : p ≠ H.next + 1 + 1 + 1 + 1 + 1 + 1 + 1 := by omega
      have qq7 := Ne.symm pp7
      have pp8 : p ≠ H.next + 1 + 1 + 1 + 1 + 1 + 1 + 1 + 1 := by omega
      have qq8 := Ne.symm pp8
      have pp9 : p ≠ H.next + 1 + 1 + 1 + 1 + 1 + 1 + 1 + 1 + 1 := by omega
      have qq9 := Ne.symm pp9
      have pp10 : p ≠ H.next + 1 + 1 + 1 + 1 + 1 + 1 + 1 + 1 + 1 + 1 := by omega
      have qq10 := Ne.symm pp10
      have pp4 : p ≠ H.next + 1 + 1 + 1 + 1 := by omega
      have qq4 := Ne.symm pp4
      refine does_use (p_want hW (W := W) (s := sA) (by unfold PAt; simp [hp1, hp2, hp3, hp4, hq1, hq2, hq3, hq4, c2, e2, c3, e3, c4, e4, c5, e5, c6, e6, c7, e7, c8, e8, c9, e9, c10, e10, pp4, qq4, pp5, qq5, pp6, qq6, pp7, qq7, pp8, qq8, pp9, qq9, pp10, qq10]) hiA [[116, 104, 101, 110]] (H.next + 1 + 1 + 1 + 1 + 1) 1 false (by simp) (by omega) (by simp)) ?_
      rintro _ H2 ⟨rfl, rfl⟩
      have hiT := want_ok hW [[116, 104, 101, 110]] hiA
      obtain ⟨sT, hsT⟩ : ∃ x, x = Syn.want W sA [[116, 104, 101, 110]] := ⟨_, rfl⟩
      rw [← hsT] at hiT ⊢
      simp [hp1, hp2, hp3, hp4, hq1, hq2, hq3, hq4, c2, e2, c3, e3, c4, e4, c5, e5, c6, e6, c7, e7, c8, e8, c9, e9, c10, e10, pp4, qq4, pp5, qq5, pp6, qq6, pp7, qq7, pp8, qq8, pp9, qq9, pp10, qq10]
      refine aw_drawn [(1, 0), (1, 5)] mixedOrders (by kernel_rfl) ?_
      intro es hes
      simp [hp1, hp2, hp3, hp4, hq1, hq2, hq3, hq4, c2, e2, c3, e3, c4, e4, c5, e5, c6, e6, c7, e7, c8, e8, c9, e9, c10, e10, pp4, qq4, pp5, qq5, pp6, qq6, pp7, qq7, pp8, qq8, pp9, qq9, pp10, qq10]
      refine ⟨_, _, hn _ sT (by unfold PAt; simp [hp1, hp2, hp3, hp4, hq1, hq2, hq3, hq4, c2, e2, c3, e3, c4, e4, c5, e5, c6, e6, c7, e7, c8, e8, c9, e9, c10, e10, pp4, qq4, pp5, qq5, pp6, qq6, pp7, qq7, pp8, qq8, pp9, qq9, pp10, qq10]) hiT, by simp, ?_⟩
      have hiB := hk.i sT hiT
      rcases hB : inn sT with ⟨⟨opB, nmB, nB, poB, ksB⟩, sB⟩
      rw [hB] at hiB
      simp only at hiB
      simp [exCells_mk, hp1, hp2, hp3, hp4, hq1, hq2, hq3, hq4, c2, e2, c3, e3, c4, e4, c5, e5, c6, e6, c7, e7, c8, e8, c9, e9, c10, e10, pp4, qq4, pp5, qq5, pp6, qq6, pp7, qq7, pp8, qq8, pp9, qq9, pp10, qq10, rds, heapF]
      refine ⟨?_, ?_⟩
      · subst hes
        exact ⟨by kernel_rfl, by kernel_rfl⟩
      refine does_use (p_want hW (W := W) (s := sB) (by unfold PAt; simp [hp1, hp2, hp3, hp4, hq1, hq2, hq3, hq4, c2, e2, c3, e3, c4, e4, c5, e5, c6, e6, c7, e7, c8, e8, c9, e9, c10, e10, pp4, qq4, pp5, qq5, pp6, qq6, pp7, qq7, pp8, qq8, pp9, qq9, pp10, qq10]) hiB [[101, 108, 115, 101]] (H.next + 1 + 1 + 1 + 1 + 1 + 1 + 1 + 1) 1 false (by simp) (by omega) (by simp)) ?_
      rintro _ H2 ⟨rfl, rfl⟩
      have hiE := want_ok hW [[101, 108, 115, 101]] hiB
      obtain ⟨sE, hsE⟩ : ∃ x, x = Syn.want W sB [[101, 108, 115, 101]] := ⟨_, rfl⟩
      rw [← hsE] at hiE ⊢
      simp [hp1, hp2, hp3, hp4, hq1, hq2, hq3, hq4, c2, e2, c3, e3, c4, e4, c5, e5, c6, e6, c7, e7, c8, e8, c9, e9, c10, e10, pp4, qq4, pp5, qq5, pp6, qq6, pp7, qq7, pp8, qq8, pp9, qq9, pp10, qq10]
      refine aw_drawn [(1, 0), (1, 5)] mixedOrders (by kernel_rfl) ?_
      intro es hes
      simp [hp1, hp2, hp3, hp4, hq1, hq2, hq3, hq4, c2, e2, c3, e3, c4, e4, c5, e5, c6, e6, c7, e7, c8, e8, c9, e9, c10, e10, pp4, qq4, pp5, qq5, pp6, qq6, pp7, qq7, pp8, qq8, pp9, qq9, pp10, qq10]
      refine ⟨_, _, hn _ sE (by unfold PAt; simp [hp1, hp2, hp3, hp4, hq1, hq2, hq3, hq4, c2, e2, c3, e3, c4, e4, c5, e5, c6, e6, c7, e7, c8, e8, c9, e9, c10, e10, pp4, qq4, pp5, qq5, pp6, qq6, pp7, qq7, pp8, qq8, pp9, qq9, pp10, qq10]) hiE, by simp, ?_⟩
      have hiC := hk.i sE hiE
      rcases hC : inn sE with ⟨⟨opC, nmC, nC, poC, ksC⟩, sC⟩
      rw [hC] at hiC
      simp only at hiC
      simp [exCells_mk, hp1, hp2, hp3, hp4, hq1, hq2, hq3, hq4, c2, e2, c3, e3, c4, e4, c5, e5, c6, e6, c7, e7, c8, e8, c9, e9, c10, e10, pp4, qq4, pp5, qq5, pp6, qq6, pp7, qq7, pp8, qq8, pp9, qq9, pp10, qq10, rds, heapF]
      refine ⟨?_, ?_⟩
      · subst hes
        exact ⟨by kernel_rfl, by kernel_rfl⟩
      have hT1 : Syn.want1 W sA [116, 104, 101, 110] = sT := hsT.symm
      have hE1 : Syn.want1 W sB [101, 108, 115, 101] = sE := hsE.symm
      have hr : Syn.rest W inn mer w s = (.mk w.2.text [] 0 w.1 [.mk opA nmA nA poA ksA, .mk opB nmB nB poB ksB, .mk opC nmC nC poC ksC], sC) := by simp [Syn.rest, k3, tT, tF, k1, tI, hA, hT1, hB, hE1, hC]
      rw [hr]
      refine ⟨?_, by simp [hp1, hp2, hp3, hp4, hq1, hq2, hq3, hq4, c2, e2, c3, e3, c4, e4, c5, e5, c6, e6, c7, e7, c8, e8, c9, e9, c10, e10, pp4, qq4, pp5, qq5, pp6, qq6, pp7, qq7, pp8, qq8, pp9, qq9, pp10, qq10], fun j x hjp hj => ?_⟩
      · rw [exCells_mk, tI]
        refine .agg (.cons (.old rfl) (.cons (.old rfl) (.cons (.old rfl) (.cons (.old rfl) (.cons ?_ .nil)))))
        have hkk : kidsV [Syn.Ex.mk opA nmA nA poA ksA, Syn.Ex.mk opB nmB nB poB ksB, Syn.Ex.mk opC nmC nC poC ksC] = .vsl (exsCells [Syn.Ex.mk opA nmA nA poA ksA, Syn.Ex.mk opB nmB nB poB ksB, Syn.Ex.mk opC nmC nC poC ksC]) 3 := rfl
        rw [hkk]
        refine .sl (cs := exsCells [Syn.Ex.mk opA nmA nA poA ksA, Syn.Ex.mk opB nmB nB poB ksB, Syn.Ex.mk opC nmC nC poC ksC]) (by omega) ?_ ?_
        · simp [exsCells, exCells_mk, hp1, hp2, hp3, hp4, hq1, hq2, hq3, hq4, c2, e2, c3, e3, c4, e4, c5, e5, c6, e6, c7, e7, c8, e8, c9, e9, c10, e10, pp4, qq4, pp5, qq5, pp6, qq6, pp7, qq7, pp8, qq8, pp9, qq9, pp10, qq10]
        · simp only [exsCells, exCells_mk]
          exact .old (by simp [AV.allLt, AV.idLt, kidsV_lt])
      · have := old j x hj
        have j0 : j ≠ H.next := by omega
        have j1 : j ≠ H.next + 1 := by omega
        have j2 : j ≠ H.next + 1 + 1 := by omega
        have j3 : j ≠ H.next + 1 + 1 + 1 := by omega
        have j4 : j ≠ H.next + 1 + 1 + 1 + 1 := by omega
        have j5 : j ≠ H.next + 1 + 1 + 1 + 1 + 1 := by omega
        have j6 : j ≠ H.next + 1 + 1 + 1 + 1 + 1 + 1 := by omega
        have j7 : j ≠ H.next + 1 + 1 + 1 + 1 + 1 + 1 + 1 := by omega
        have j8 : j ≠ H.next + 1 + 1 + 1 + 1 + 1 + 1 + 1 + 1 := by omega
        have j9 : j ≠ H.next + 1 + 1 + 1 + 1 + 1 + 1 + 1 + 1 + 1 := by omega
        have j10 : j ≠ H.next + 1 + 1 + 1 + 1 + 1 + 1 + 1 + 1 + 1 + 1 := by omega
        simp [hj, hjp, j0, j1, j2, j3, j4, j5, j6, j7, j8, j9, j10]
    · simp [tI, m1, m2, text_beq]
      refine does_use (p_name hW (hP0 _ (by simp [hp1, hp2, hp3])) hi) ?_
      rintro _ H2 ⟨rfl, rfl⟩
      have hiN := name_ok hW hi
      rcases hN : Syn.name W s with ⟨nmN, sN⟩
      rw [hN] at hiN
      simp only at hiN
      simp [hp1, hp2, hp3, hq1, hq2, hq3, m1, m2]
      refine does_use (hm _ sN (by unfold PAt; simp [hp3]) hiN) ?_
      rintro _ H2 ⟨rfl, rfl⟩
      have hiA := hkm.i sN hiN
      rcases hA : mer sN with ⟨⟨opA, nmA, nA, poA, ksA⟩, sA⟩
      rw [hA] at hiA
      simp only at hiA
      simp
      refine does_use (hm _ sA (by unfold PAt; simp) hiA) ?_
      rintro _ H2 ⟨rfl, rfl⟩
      rcases hB : mer sA with ⟨⟨opB, nmB, nB, poB, ksB⟩, sB⟩
      simp [exCells_mk, m1, m2, m3, m4, m5, m6, hp1, hp2, hp3, hp4, hq1, hq2, hq3, hq4]
      have hr : Syn.rest W inn mer w s = (.mk w.2.text nmN 0 w.1 [.mk opA nmA nA poA ksA, .mk opB nmB nB poB ksB], sB) := by simp [Syn.rest, k3, tT, tF, k1, tI, hN, hA, hB]
      rw [hr]
      refine ⟨?_, by simp [hp1, hp2, hp3, hp4], fun j x hjp hj => ?_⟩
      · rw [exCells_mk]
        refine .agg (.cons (.old rfl) (.cons (.old rfl) (.cons (.old rfl) (.cons (.old rfl) (.cons ?_ .nil)))))
        have hkk : kidsV [Syn.Ex.mk opA nmA nA poA ksA, Syn.Ex.mk opB nmB nB poB ksB] = .vsl (exsCells [Syn.Ex.mk opA nmA nA poA ksA, Syn.Ex.mk opB nmB nB poB ksB]) 2 := rfl
        rw [hkk]
        refine .sl (cs := exsCells [Syn.Ex.mk opA nmA nA poA ksA, Syn.Ex.mk opB nmB nB poB ksB]) (by omega) ?_ ?_
        · simp [exsCells, exCells_mk, m1, m2, m3, m4, m5, m6, hp4, hq4]
        · simp only [exsCells, exCells_mk]
          exact .old (by simp [AV.allLt, AV.idLt, kidsV_lt])
      · have := old j x hj
        have k1 : j ≠ H.next := by omega
        have k2 : j ≠ H.next + 1 := by omega
        have k4 : j ≠ H.next + 1 + 1 := by omega
        have k5 : j ≠ H.next + 1 + 1 + 1 := by omega
        simp [hj, hjp, k1, k2, k4, k5]
end Go.Proofs.YtnhomjhfaoipmaaGreatDoor

namespace Go.Proofs.YtnhomjhfaoipmaaGreatDoor
open Go Go.Abs Go.Lex
set_option linter.unusedSimpArgs false
variable {G : Nat → Option AV}
def Kp (W : Syn.Ws) (s s' : Syn.St) : Prop := s.i < W.length → s'.i < W.length ∧ mu W s' ≤ mu W s
theorem Kp.refl {W : Syn.Ws} (s : Syn.St) : Kp W s s := fun h => ⟨h, Nat.le_refl _⟩
theorem Kp.trans {W : Syn.Ws} {a b c : Syn.St} (h : Kp W a b) (g : Kp W b c) : Kp W a c := fun hi => by
  obtain ⟨h1, h2⟩ := h hi
  obtain ⟨g1, g2⟩ := g h1
  exact ⟨g1, Nat.le_trans g2 h2⟩
theorem kp_fail {W : Syn.Ws} {e : Nat} (he : e ≠ 0) (s : Syn.St) : Kp W s (Syn.fail W e s) := fun hi => ⟨by rw [fail_i]; exact hi, mu_fail W he s⟩
theorem kp_want1 {W : Syn.Ws} (hW : WsOk W) (s : Syn.St) (t : Bs) : Kp W s (Syn.want1 W s t) := fun hi => ⟨want1_ok hW hi t, want1_mu W s t⟩
theorem kp_take {W : Syn.Ws} (hW : WsOk W) (s : Syn.St) (t : Bs) : Kp W s (Syn.take W s t).2 := fun hi => ⟨take_ok hW hi t, take_mu W s t⟩
theorem kp_name {W : Syn.Ws} (hW : WsOk W) (s : Syn.St) : Kp W s (Syn.name W s).2 := fun hi => ⟨name_ok hW hi, name_mu W s⟩
theorem kp_deeper {W : Syn.Ws} (b : Bool) (s : Syn.St) : Kp W s (Syn.deeper W b s).2 := fun hi => ⟨by rw [deeper_i]; exact hi, deeper_mu W b s⟩
theorem kp_part {W : Syn.Ws} (hW : WsOk W) {s : Syn.St} (hk : (Syn.at_ W s).2.kind ≠ 0) : Kp W s (Syn.part W s) := fun hi => ⟨part_ok hW hi hk, part_mu' s⟩
theorem kp_succ {W : Syn.Ws} (hW : WsOk W) {s : Syn.St} (hk : (Syn.at_ W s).2.kind ≠ 0) : Kp W s { s with i := s.i + 1 } := fun hi => ⟨ok_succ hW hi hk, mu_succ W s⟩
theorem Keeps.kp {W : Syn.Ws} {g : Syn.P} (h : Keeps W g) (s : Syn.St) : Kp W s (g s).2 := fun hi => ⟨h.i s hi, h.mu s hi⟩
theorem keeps_of {W : Syn.Ws} {g : Syn.P} (h : ∀ s, Kp W s (g s).2) : Keeps W g := ⟨fun s hi => (h s hi).1, fun s hi => (h s hi).2⟩
theorem right_keeps {W : Syn.Ws} (hW : WsOk W) {next below : Syn.P} (t : Bs) (b : Bool) (hn : Keeps W next) (hb : Keeps W below) : Keeps W (Syn.right W next t b below) := keeps_of fun s => by
  unfold Syn.right
  have h1 := hn.kp s
  rcases hx : next s with ⟨e, s1⟩
  rw [hx] at h1
  simp only at h1 ⊢
  split
  · rename_i ht
    have h2 := kp_part hW (is_kind ht).2
    have h3 := kp_deeper (W := W) b (Syn.part W s1)
    rcases hd : Syn.deeper W b (Syn.part W s1) with ⟨c, s2⟩
    rw [hd] at h3
    simp only at h3 ⊢
    cases c
    · exact h1.trans (h2.trans h3)
    · exact h1.trans (h2.trans (h3.trans (hb.kp s2)))
  · exact h1
theorem row_keeps {W : Syn.Ws} (hW : WsOk W) {next : Syn.P} (ts : List Bs) (hn : Keeps W next) : Keeps W (Syn.row W next ts) := keeps_of fun s => by
  have hL : ∀ (m : Nat) (e : Syn.Ex) (s : Syn.St), Kp W s (Syn.rowL W next ts m e s).2 := by
    intro m
    induction m with
    | zero => intro e s; exact Kp.refl s
    | succ m ih =>
      intro e s
      unfold Syn.rowL
      split
      · rename_i ho
        have h2 := kp_part hW (one_kind ho).2
        have h3 := hn.kp (Syn.part W s)
        rcases hx : next (Syn.part W s) with ⟨e2, s2⟩
        rw [hx] at h3
        simp only at h3 ⊢
        exact h2.trans (h3.trans (ih _ _))
      · exact Kp.refl s
  unfold Syn.row
  have h1 := hn.kp s
  rcases hx : next s with ⟨e, s1⟩
  rw [hx] at h1
  simp only at h1 ⊢
  exact h1.trans (hL _ _ _)
theorem cmp_keeps {W : Syn.Ws} (hW : WsOk W) {next : Syn.P} (hn : Keeps W next) : Keeps W (Syn.cmp W next) := keeps_of fun s => by
  unfold Syn.cmp
  have h1 := hn.kp s
  rcases hx : next s with ⟨e, s1⟩
  rw [hx] at h1
  simp only at h1 ⊢
  split
  · rename_i ho
    have h2 := kp_part hW (one_kind ho).2
    have h3 := hn.kp (Syn.part W s1)
    rcases hy : next (Syn.part W s1) with ⟨e2, s2⟩
    rw [hy] at h3
    simp only at h3 ⊢
    exact h1.trans (h2.trans h3)
  · exact h1
theorem when_keeps {W : Syn.Ws} (hW : WsOk W) {next : Syn.P} (hn : Keeps W next) : Keeps W (Syn.when_ W next) := keeps_of fun s => by
  have hL : ∀ (m : Nat) (e : Syn.Ex) (s : Syn.St), Kp W s (Syn.whenL W m e s).2 := by
    intro m
    induction m with
    | zero => intro e s; exact Kp.refl s
    | succ m ih =>
      intro e s
      unfold Syn.whenL
      split
      · rename_i ho
        have h2 := kp_part hW (is_kind ho).2
        have h3 := kp_take hW (Syn.part W s) [110, 111, 116]
        rcases hx : Syn.take W (Syn.part W s) [110, 111, 116] with ⟨b, s2⟩
        rw [hx] at h3
        have h4 := kp_name hW s2
        rcases hy : Syn.name W s2 with ⟨nm, s3⟩
        rw [hy] at h4
        simp only at h3 h4 ⊢
        rw [hy]
        exact h2.trans (h3.trans (h4.trans (ih _ _)))
      · exact Kp.refl s
  unfold Syn.when_
  have h1 := hn.kp s
  rcases hx : next s with ⟨e, s1⟩
  rw [hx] at h1
  simp only at h1 ⊢
  exact h1.trans (hL _ _ _)
theorem un_keeps {W : Syn.Ws} (hW : WsOk W) {prim below : Syn.P} (b : Bool) (hn : Keeps W prim) (hb : Keeps W below) : Keeps W (Syn.un W prim b below) := keeps_of fun s => by
  unfold Syn.un
  split
  · rename_i ho
    have h2 := kp_part hW (one_kind ho).2
    have h3 := kp_deeper (W := W) b (Syn.part W s)
    rcases hd : Syn.deeper W b (Syn.part W s) with ⟨c, s2⟩
    rw [hd] at h3
    simp only at h3 ⊢
    cases c
    · exact h2.trans h3
    · exact h2.trans (h3.trans (hb.kp s2))
  · exact hn.kp s
theorem rest_keeps {W : Syn.Ws} (hW : WsOk W) {inn mer : Syn.P} (hn : Keeps W inn) (hm : Keeps W mer) (w : Nat × Wd) (s : Syn.St) : Kp W s (Syn.rest W inn mer w s).2 := by
  unfold Syn.rest
  split
  · exact Kp.refl s
  split
  · exact Kp.refl s
  split
  · exact Kp.refl s
  split
  · split
    · rename_i ho
      have h1 := kp_succ hW (is_kind ho).2
      obtain ⟨g1, g2⟩ := arguments_keeps hW hn
      exact h1.trans fun hi => ⟨g1 _ hi, g2 _ hi⟩
    · exact Kp.refl s
  split
  · have h1 := hn.kp s
    rcases hA : inn s with ⟨a, sA⟩
    rw [hA] at h1
    simp only at h1 ⊢
    have h2 := kp_want1 hW sA [116, 104, 101, 110]
    have h3 := hn.kp (Syn.want1 W sA [116, 104, 101, 110])
    rcases hB : inn (Syn.want1 W sA [116, 104, 101, 110]) with ⟨b, sB⟩
    rw [hB] at h3
    simp only at h3 ⊢
    have h4 := kp_want1 hW sB [101, 108, 115, 101]
    have h5 := hn.kp (Syn.want1 W sB [101, 108, 115, 101])
    exact h1.trans (h2.trans (h3.trans (h4.trans h5)))
  · have h1 := kp_name hW s
    rcases hN : Syn.name W s with ⟨nm, sN⟩
    rw [hN] at h1
    simp only at h1 ⊢
    have h2 := hm.kp sN
    rcases hA : mer sN with ⟨a, sA⟩
    rw [hA] at h2
    simp only at h2 ⊢
    exact h1.trans (h2.trans (hm.kp sA))
theorem prim_keeps {W : Syn.Ws} (hW : WsOk W) {inn mer : Syn.P} (hn : Keeps W inn) (hm : Keeps W mer) : Keeps W (Syn.prim W inn mer) := keeps_of fun s => by
  unfold Syn.prim
  simp only
  split
  · exact Kp.refl s
  split
  · rename_i ho
    have h1 := kp_succ hW (is_kind ho).2
    have h2 := hn.kp { s with i := s.i + 1 }
    exact h1.trans (h2.trans (kp_want1 hW _ _))
  split
  · rename_i hk
    have hk0 : (Syn.at_ W s).2.kind ≠ 0 := by
      rcases hk with h | h | h
      · omega
      · omega
      · exact (one_kind h).2
    exact (kp_part hW hk0).trans (rest_keeps hW hn hm _ _)
  · exact kp_fail (by omega) s
set_option maxHeartbeats 2000000 in
set_option maxRecDepth 100000 in
theorem p_or {W : Syn.Ws} (hW : WsOk W) {p : Nat} {d : Int} {next : Syn.P} (hn : Reads G W p 319 d next) (hk : Keeps W next) : Reads G W p 272 d (Syn.row W next [[111, 114], [120, 111, 114]]) := by
  intro H s h hi
  refine PRes.deep h ?_
  refine Does.wf Tryz.call272 fun hw _ => ?_
  have old : ∀ j x, H.get j = some x → j < H.next := fun j x hj => next_lt hw hj
  refine does_f Tryz.call272 Tryz.func272 rfl (by simp [Tryz.f272]) ?_
  have hpl := old _ _ h
  have hp1 : p ≠ H.next := by omega
  have hp2 : p ≠ H.next + 1 := by omega
  have hq1 := Ne.symm hp1
  have hq2 := Ne.symm hp2
  simp
  refine does_use (p_row hW hn hk _ s (by unfold PAt; simp [hp1, hp2]; exact h) hi [[111, 114], [120, 111, 114]] (H.next + 1) 2 false (by simp) (by omega) (by simp)) ?_
  rintro _ H1 ⟨rfl, rfl⟩
  rcases hx : (Syn.row W next [[111, 114], [120, 111, 114]]) s with ⟨⟨op, nm, n, po, ks⟩, s1⟩
  simp [exCells_mk, hp1, hp2, hq1, hq2]
  refine ⟨?_, by simp [hp1, hp2], fun j x hjp hj => ?_⟩
  · simp only
    rw [exCells_mk]
    exact .old (by simp [AV.idLt, AV.allLt, kidsV_lt])
  · have := old j x hj
    have k1 : j ≠ H.next := by omega
    have k2 : j ≠ H.next + 1 := by omega
    simp [hj, hjp, k1, k2]
set_option maxHeartbeats 2000000 in
set_option maxRecDepth 100000 in
theorem p_and {W : Syn.Ws} (hW : WsOk W) {p : Nat} {d : Int} {next : Syn.P} (hn : Reads G W p 345 d next) (hk : Keeps W next) : Reads G W p 319 d (Syn.row W next [[97, 110, 100]]) := by
  intro H s h hi
  refine PRes.deep h ?_
  refine Does.wf Tryz.call319 fun hw _ => ?_
  have old : ∀ j x, H.get j = some x → j < H.next := fun j x hj => next_lt hw hj
  refine does_f Tryz.call319 Tryz.func319 rfl (by simp [Tryz.f319]) ?_
  have hpl := old _ _ h
  have hp1 : p ≠ H.next := by omega
  have hp2 : p ≠ H.next + 1 := by omega
  have hq1 := Ne.symm hp1
  have hq2 := Ne.symm hp2
  simp
  refine does_use (p_row hW hn hk _ s (by unfold PAt; simp [hp1, hp2]; exact h) hi [[97, 110, 100]] (H.next + 1) 1 false (by simp) (by omega) (by simp)) ?_
  rintro _ H1 ⟨rfl, rfl⟩
  rcases hx : (Syn.row W next [[97, 110, 100]]) s with ⟨⟨op, nm, n, po, ks⟩, s1⟩
  simp [exCells_mk, hp1, hp2, hq1, hq2]
  refine ⟨?_, by simp [hp1, hp2], fun j x hjp hj => ?_⟩
  · simp only
    rw [exCells_mk]
    exact .old (by simp [AV.idLt, AV.allLt, kidsV_lt])
  · have := old j x hj
    have k1 : j ≠ H.next := by omega
    have k2 : j ≠ H.next + 1 := by omega
    simp [hj, hjp, k1, k2]
set_option maxHeartbeats 2000000 in
set_option maxRecDepth 100000 in
theorem p_add {W : Syn.Ws} (hW : WsOk W) {p : Nat} {d : Int} {next : Syn.P} (hn : Reads G W p 377 d next) (hk : Keeps W next) : Reads G W p 363 d (Syn.row W next [[43], [45]]) := by
  intro H s h hi
  refine PRes.deep h ?_
  refine Does.wf Tryz.call363 fun hw _ => ?_
  have old : ∀ j x, H.get j = some x → j < H.next := fun j x hj => next_lt hw hj
  refine does_f Tryz.call363 Tryz.func363 rfl (by simp [Tryz.f363]) ?_
  have hpl := old _ _ h
  have hp1 : p ≠ H.next := by omega
  have hp2 : p ≠ H.next + 1 := by omega
  have hq1 := Ne.symm hp1
  have hq2 := Ne.symm hp2
  simp
  refine does_use (p_row hW hn hk _ s (by unfold PAt; simp [hp1, hp2]; exact h) hi [[43], [45]] (H.next + 1) 2 false (by simp) (by omega) (by simp)) ?_
  rintro _ H1 ⟨rfl, rfl⟩
  rcases hx : (Syn.row W next [[43], [45]]) s with ⟨⟨op, nm, n, po, ks⟩, s1⟩
  simp [exCells_mk, hp1, hp2, hq1, hq2]
  refine ⟨?_, by simp [hp1, hp2], fun j x hjp hj => ?_⟩
  · simp only
    rw [exCells_mk]
    exact .old (by simp [AV.idLt, AV.allLt, kidsV_lt])
  · have := old j x hj
    have k1 : j ≠ H.next := by omega
    have k2 : j ≠ H.next + 1 := by omega
    simp [hj, hjp, k1, k2]
set_option maxHeartbeats 2000000 in
set_option maxRecDepth 100000 in
theorem p_mul {W : Syn.Ws} (hW : WsOk W) {p : Nat} {d : Int} {next : Syn.P} (hn : Reads G W p 383 d next) (hk : Keeps W next) : Reads G W p 377 d (Syn.row W next [[42], [47], [109, 111, 100]]) := by
  intro H s h hi
  refine PRes.deep h ?_
  refine Does.wf Tryz.call377 fun hw _ => ?_
  have old : ∀ j x, H.get j = some x → j < H.next := fun j x hj => next_lt hw hj
  refine does_f Tryz.call377 Tryz.func377 rfl (by simp [Tryz.f377]) ?_
  have hpl := old _ _ h
  have hp1 : p ≠ H.next := by omega
  have hp2 : p ≠ H.next + 1 := by omega
  have hq1 := Ne.symm hp1
  have hq2 := Ne.symm hp2
  simp
  refine does_use (p_row hW hn hk _ s (by unfold PAt; simp [hp1, hp2]; exact h) hi [[42], [47], [109, 111, 100]] (H.next + 1) 3 false (by simp) (by omega) (by simp)) ?_
  rintro _ H1 ⟨rfl, rfl⟩
  rcases hx : (Syn.row W next [[42], [47], [109, 111, 100]]) s with ⟨⟨op, nm, n, po, ks⟩, s1⟩
  simp [exCells_mk, hp1, hp2, hq1, hq2]
  refine ⟨?_, by simp [hp1, hp2], fun j x hjp hj => ?_⟩
  · simp only
    rw [exCells_mk]
    exact .old (by simp [AV.idLt, AV.allLt, kidsV_lt])
  · have := old j x hj
    have k1 : j ≠ H.next := by omega
    have k2 : j ≠ H.next + 1 := by omega
    simp [hj, hjp, k1, k2]
set_option maxHeartbeats 2000000 in
set_option maxRecDepth 100000 in
theorem p_fby {W : Syn.Ws}  {p : Nat} {d : Int} {next : Syn.P} (hn : RightC G W p 386 [102, 98, 121] d next) : Reads G W p 383 d (next) := by
  intro H s h hi
  refine PRes.deep h ?_
  refine Does.wf Tryz.call383 fun hw _ => ?_
  have old : ∀ j x, H.get j = some x → j < H.next := fun j x hj => next_lt hw hj
  refine does_f Tryz.call383 Tryz.func383 rfl (by simp [Tryz.f383]) ?_
  have hpl := old _ _ h
  have hp1 : p ≠ H.next := by omega
  have hp2 : p ≠ H.next + 1 := by omega
  have hq1 := Ne.symm hp1
  have hq2 := Ne.symm hp2
  simp
  refine does_use (hn _ s (by unfold PAt; simp [hp1]; exact h) hi) ?_
  rintro _ H1 ⟨rfl, rfl⟩
  rcases hx : (next) s with ⟨⟨op, nm, n, po, ks⟩, s1⟩
  simp [exCells_mk, hp1, hp2, hq1, hq2]
  refine ⟨?_, by simp [hp1, hp2], fun j x hjp hj => ?_⟩
  · simp only
    rw [exCells_mk]
    exact .old (by simp [AV.idLt, AV.allLt, kidsV_lt])
  · have := old j x hj
    have k1 : j ≠ H.next := by omega
    have k2 : j ≠ H.next + 1 := by omega
    simp [hj, hjp, k1, k2]
set_option maxHeartbeats 2000000 in
set_option maxRecDepth 100000 in
theorem p_expr {W : Syn.Ws}  {p : Nat} {d : Int} {next : Syn.P} (hn : RightC G W p 272 [45, 62] d next) : Reads G W p 221 d (next) := by
  intro H s h hi
  refine PRes.deep h ?_
  refine Does.wf Tryz.call221 fun hw _ => ?_
  have old : ∀ j x, H.get j = some x → j < H.next := fun j x hj => next_lt hw hj
  refine does_f Tryz.call221 Tryz.func221 rfl (by simp [Tryz.f221]) ?_
  have hpl := old _ _ h
  have hp1 : p ≠ H.next := by omega
  have hp2 : p ≠ H.next + 1 := by omega
  have hq1 := Ne.symm hp1
  have hq2 := Ne.symm hp2
  simp
  refine does_use (hn _ s (by unfold PAt; simp [hp1]; exact h) hi) ?_
  rintro _ H1 ⟨rfl, rfl⟩
  rcases hx : (next) s with ⟨⟨op, nm, n, po, ks⟩, s1⟩
  simp [exCells_mk, hp1, hp2, hq1, hq2]
  refine ⟨?_, by simp [hp1, hp2], fun j x hjp hj => ?_⟩
  · simp only
    rw [exCells_mk]
    exact .old (by simp [AV.idLt, AV.allLt, kidsV_lt])
  · have := old j x hj
    have k1 : j ≠ H.next := by omega
    have k2 : j ≠ H.next + 1 := by omega
    simp [hj, hjp, k1, k2]
end Go.Proofs.YtnhomjhfaoipmaaGreatDoor

namespace Go.Proofs.YtnhomjhfaoipmaaGreatDoor
open Go Go.Abs Go.Lex
set_option linter.unusedSimpArgs false
variable {G : Nat → Option AV}
set_option maxHeartbeats 8000000 in
set_option maxRecDepth 100000 in
theorem p_prim {W : Syn.Ws} (hW : WsOk W) {p : Nat} {d : Int} {inn mer : Syn.P} (hn : Reads G W p 389 d inn) (hk : Keeps W inn) (hm : Reads G W p 392 d mer) (hkm : Keeps W mer) :
    Reads G W p 388 d (Syn.prim W inn mer) := by
  intro H s h hi
  refine PRes.deep h ?_
  refine Does.wf Tryz.call388 fun hw _ => ?_
  have old : ∀ j x, H.get j = some x → j < H.next := fun j x hj => next_lt hw hj
  refine does_f Tryz.call388 Tryz.func388 rfl (by simp [Tryz.f388]) ?_
  have hpl := old _ _ h
  have hp1 : p ≠ H.next := by omega
  have hp2 : p ≠ H.next + 1 := by omega
  have hp3 : p ≠ H.next + 1 + 1 := by omega
  have hp4 : p ≠ H.next + 1 + 1 + 1 := by omega
  have hq1 := Ne.symm hp1
  have hq2 := Ne.symm hp2
  have hq3 := Ne.symm hp3
  have hq4 := Ne.symm hp4
  have m1 : H.next ≠ H.next + 1 + 1 := by omega
  have m2 : H.next + 1 + 1 ≠ H.next := by omega
  have m3 : H.next ≠ H.next + 1 + 1 + 1 := by omega
  have m4 : H.next + 1 + 1 + 1 ≠ H.next := by omega
  have hP0 : ∀ H' : AHeap, H'.get p = H.get p → PAt H' p W s := fun H' e => e.trans h
  have hkeep : ∀ j x, H.get j = some x → j ≠ H.next ∧ j ≠ H.next + 1 ∧ j ≠ H.next + 1 + 1 ∧ j ≠ H.next + 1 + 1 + 1 := fun j x hj => by have := old j x hj; omega
  simp
  refine does_use (p_word (hP0 _ (by simp [hp1])) hi) ?_
  rintro _ H1 ⟨rfl, rfl⟩
  simp [wdCells]
  refine does_use (p_ok (hP0 _ (by simp [hp1, hp2]))) ?_
  rintro _ H1 ⟨rfl, rfl⟩
  by_cases h0 : s.err = 0
  · simp [h0]
    refine does_use (p_take hW (hP0 _ (by simp [hp1, hp2])) hi [40]) ?_
    rintro _ H1 ⟨rfl, rfl⟩
    by_cases ho : Syn.is W s [40] = true
    · have hi2 := ok_succ hW hi (is_kind ho).2
      simp [Syn.take, ho]
      refine does_use (hn _ { s with i := s.i + 1 } (PAt.set _) hi2) ?_
      rintro _ H2 ⟨rfl, rfl⟩
      have hi3 := hk.i { s with i := s.i + 1 } hi2
      rcases hy : inn { s with i := s.i + 1 } with ⟨⟨op, nm, n, po, ks⟩, s4⟩
      rw [hy] at hi3
      simp only at hi3
      simp [exCells_mk, hp1, hp2, hp3, hq1, hq2, hq3]
      refine does_use (p_want hW (W := W) (s := s4) (by unfold PAt; simp [hp1, hp2, hp3, hp4]) hi3 [[41]] (H.next + 1 + 1 + 1) 1 false (by simp) (by omega) (by simp)) ?_
      rintro _ H2 ⟨rfl, rfl⟩
      have hw1 : Syn.want W s4 [[41]] = Syn.want1 W s4 [41] := rfl
      have hr : Syn.prim W inn mer s = (.mk op nm n po ks, Syn.want1 W s4 [41]) := by
        unfold Syn.prim
        simp only
        rw [if_neg (fun e => e h0), if_pos ho, hy]
      simp [hw1, hp1, hp2, hp3, hp4, hq1, hq2, hq3, hq4, m1, m2, m3, m4]
      rw [hr]
      refine ⟨?_, by simp [hp1, hp2, hp3, hp4], fun j x hjp hj => ?_⟩
      · rw [exCells_mk]
        exact .old (by simp [AV.idLt, AV.allLt, kidsV_lt])
      · obtain ⟨k1, k2, k3, k4⟩ := hkeep j x hj
        simp [hj, hjp, k1, k2, k3, k4]
    · have ho' : Syn.is W s [40] = false := by simpa using ho
      simp [Syn.take, ho', hp1, hp2, hp3, hq1, hq2, hq3]
      have hsame : ∀ H' : AHeap, H'.get p = some (.cells (stCells W s)) → H'.set p (.cells (stCells W s)) = H' := fun H' e => set_same e
      -- what comes behind, told of the word's kind
      have fin : ∀ (r : AV) (H' : AHeap) (x : Syn.Ex × Syn.St), Syn.prim W inn mer s = x → r = .agg (exCells x.1) → H'.get p = some (.cells (stCells W x.2)) → (∀ j y, j ≠ p → H.get j = some y → H'.get j = some y) → PRes H p W (Syn.prim W inn mer s) r H' := by
        rintro r H' x hx rfl h1 h2
        rw [hx]
        exact ⟨.old (by simpa [AV.idLt] using exCells_lt _ _), h1, h2⟩
      have rst : ∀ (hk0 : (Syn.at_ W s).2.kind = 3 ∨ (Syn.at_ W s).2.kind = 1 ∨ Syn.one W s [[116, 114, 117, 101], [102, 97, 108, 115, 101], [105, 102], [109, 101, 114, 103, 101]] = true), (Syn.at_ W s).2.kind ≠ 0 ∧ Syn.prim W inn mer s = Syn.rest W inn mer (Syn.at_ W s) (Syn.part W s) := by
        intro hk0
        refine ⟨?_, by unfold Syn.prim; simp only; rw [if_neg (fun e => e h0), if_neg ho, if_pos hk0]⟩
        rcases hk0 with e | e | e
        · omega
        · omega
        · exact (one_kind e).2
      by_cases k3 : (Syn.at_ W s).2.kind = 3
      · have k3' : ((((Syn.at_ W s).2.kind : Nat) : Int) = 3) = True := eq_true (by omega)
        obtain ⟨hk0, hr⟩ := rst (.inl k3)
        simp [k3', hp1, hp2, hp3, hq1, hq2, hq3]
        refine does_use (p_part hW (PAt.set _) hi) ?_
        rintro _ H2 ⟨rfl, rfl⟩
        have hi2 := part_ok hW hi hk0
        simp [hp1, hp2, hp3, hq1, hq2, hq3]
        refine does_use (p_rest hW hn hk hm hkm _ (Syn.part W s) (PAt.set _) hi2 (Syn.at_ W s)) ?_
        rintro _ H2 ⟨rfl, rfl⟩
        rcases hy : Syn.rest W inn mer (Syn.at_ W s) (Syn.part W s) with ⟨⟨op, nm, n, po, ks⟩, s4⟩
        simp [exCells_mk, hp1, hp2, hp3, hq1, hq2, hq3]
        refine fin _ _ _ (hr.trans hy) (by rw [exCells_mk]) (by simp [hp1, hp2, hp3]) fun j x hjp hj => ?_
        obtain ⟨k1, k2, k3, k4⟩ := hkeep j x hj
        simp [hj, hjp, k1, k2, k3, k4]
      · have k3' : ((((Syn.at_ W s).2.kind : Nat) : Int) = 3) = False := eq_false (by omega)
        by_cases k1 : (Syn.at_ W s).2.kind = 1
        · have k1' : ((((Syn.at_ W s).2.kind : Nat) : Int) = 1) = True := eq_true (by omega)
          obtain ⟨hk0, hr⟩ := rst (.inr (.inl k1))
          simp [k3', k1', hp1, hp2, hp3, hq1, hq2, hq3]
          refine does_use (p_part hW (PAt.set _) hi) ?_
          rintro _ H2 ⟨rfl, rfl⟩
          have hi2 := part_ok hW hi hk0
          simp [hp1, hp2, hp3, hq1, hq2, hq3]
          refine does_use (p_rest hW hn hk hm hkm _ (Syn.part W s) (PAt.set _) hi2 (Syn.at_ W s)) ?_
          rintro _ H2 ⟨rfl, rfl⟩
          rcases hy : Syn.rest W inn mer (Syn.at_ W s) (Syn.part W s) with ⟨⟨op, nm, n, po, ks⟩, s4⟩
          simp [exCells_mk, hp1, hp2, hp3, hq1, hq2, hq3]
          refine fin _ _ _ (hr.trans hy) (by rw [exCells_mk]) (by simp [hp1, hp2, hp3]) fun j x hjp hj => ?_
          obtain ⟨k1, k2, k3, k4⟩ := hkeep j x hj
          simp [hj, hjp, k1, k2, k3, k4]
        · have k1' : ((((Syn.at_ W s).2.kind : Nat) : Int) = 1) = False := eq_false (by omega)
          simp [k3', k1', hp1, hp2, hp3, hq1, hq2, hq3]
          refine does_use (p_one (W := W) (s := s) (by unfold PAt; simp [hp1, hp2, hp3]) hi [[116, 114, 117, 101], [102, 97, 108, 115, 101], [105, 102], [109, 101, 114, 103, 101]] (H.next + 1 + 1) 4 false (by simp [hp3, hq3]) (by simp)) ?_
          rintro _ H2 ⟨rfl, rfl⟩
          by_cases h1 : Syn.one W s [[116, 114, 117, 101], [102, 97, 108, 115, 101], [105, 102], [109, 101, 114, 103, 101]] = true
          · obtain ⟨hk0, hr⟩ := rst (.inr (.inr h1))
            simp [h1, hp1, hp2, hp3, hq1, hq2, hq3]
            refine does_use (p_part hW (W := W) (s := s) (by unfold PAt; simp [hp1, hp2, hp3]) hi) ?_
            rintro _ H2 ⟨rfl, rfl⟩
            have hi2 := part_ok hW hi hk0
            simp [hp1, hp2, hp3, hq1, hq2, hq3]
            refine does_use (p_rest hW hn hk hm hkm _ (Syn.part W s) (PAt.set _) hi2 (Syn.at_ W s)) ?_
            rintro _ H2 ⟨rfl, rfl⟩
            rcases hy : Syn.rest W inn mer (Syn.at_ W s) (Syn.part W s) with ⟨⟨op, nm, n, po, ks⟩, s4⟩
            simp [exCells_mk, hp1, hp2, hp3, hq1, hq2, hq3, m1, m2]
            refine fin _ _ _ (hr.trans hy) (by rw [exCells_mk]) (by simp [hp1, hp2, hp3]) fun j x hjp hj => ?_
            obtain ⟨k1, k2, k3, k4⟩ := hkeep j x hj
            simp [hj, hjp, k1, k2, k3, k4]
          · have h1' : Syn.one W s [[116, 114, 117, 101], [102, 97, 108, 115, 101], [105, 102], [109, 101, 114, 103, 101]] = false := by simpa using h1
            simp [h1', hp1, hp2, hp3, hq1, hq2, hq3]
            refine does_use (p_fail (W := W) (s := s) (by unfold PAt; simp [hp1, hp2, hp3]) hi 7) ?_
            rintro _ H2 ⟨rfl, rfl⟩
            have hr : Syn.prim W inn mer s = (.zero, Syn.fail W 7 s) := by
              unfold Syn.prim
              simp only
              rw [if_neg (fun e => e h0), if_neg ho, if_neg (fun e => e.elim k3 fun e => e.elim k1 h1)]
            simp [hp1, hp2, hp3, hq1, hq2, hq3, m1, m2]
            refine fin _ _ _ hr rfl (by simp [hp1, hp2, hp3]) fun j x hjp hj => ?_
            obtain ⟨k1, k2, k3, k4⟩ := hkeep j x hj
            simp [hj, hjp, k1, k2, k3, k4]
  · simp [h0]
    have hr : Syn.prim W inn mer s = (.zero, s) := by
      unfold Syn.prim
      simp only
      rw [if_pos h0]
    rw [hr]
    refine ⟨.old rfl, by simp [hp1, hp2]; exact h, fun j x hjp hj => ?_⟩
    obtain ⟨k1, k2, k3, k4⟩ := hkeep j x hj
    simp [hj, hjp, k1, k2, k3, k4]
end Go.Proofs.YtnhomjhfaoipmaaGreatDoor

namespace Go.Proofs.YtnhomjhfaoipmaaGreatDoor
open Go Go.Abs Go.Lex
set_option linter.unusedSimpArgs false
variable {G : Nat → Option AV}
structure LvC (G : Nat → Option AV) (W : Syn.Ws) (p : Nat) (D : Int) (L : Syn.Lv) : Prop where
  prim : Reads G W p 388 D L.prim
  un : Reads G W p 387 D L.un
  fby : RightC G W p 386 [102, 98, 121] D L.fby
  expr : RightC G W p 272 [45, 62] D L.expr
structure LvK (W : Syn.Ws) (L : Syn.Lv) : Prop where
  prim : Keeps W L.prim
  un : Keeps W L.un
  fby : Keeps W L.fby
  expr : Keeps W L.expr
theorem lvOf_k {W : Syn.Ws} (hW : WsOk W) (b : Bool) {L : Syn.Lv} (k : LvK W L) : LvK W (Syn.lvOf W b L) := by
  have kp := prim_keeps hW (inner_keeps (b := b) k.expr) (inner_keeps (b := b) k.prim)
  have ku := un_keeps hW b kp k.un
  have kw := when_keeps hW ku
  have kf := right_keeps hW [102, 98, 121] b kw k.fby
  have km := row_keeps hW [[42], [47], [109, 111, 100]] kf
  have ka := row_keeps hW [[43], [45]] km
  have kc := cmp_keeps hW ka
  have kn := row_keeps hW [[97, 110, 100]] kc
  have ko := row_keeps hW [[111, 114], [120, 111, 114]] kn
  have ke := right_keeps hW [45, 62] b ko k.expr
  generalize hp : Syn.prim W (Syn.inner W b L.expr) (Syn.inner W b L.prim) = gp at *
  generalize hu : Syn.un W gp b L.un = gu at *
  generalize hf : Syn.right W (Syn.when_ W gu) [102, 98, 121] b L.fby = gf at *
  generalize he : Syn.right W (Syn.row W (Syn.row W (Syn.cmp W (Syn.row W (Syn.row W gf [[42], [47], [109, 111, 100]]) [[43], [45]])) [[97, 110, 100]]) [[111, 114], [120, 111, 114]]) [45, 62] b L.expr = ge at *
  have e : Syn.lvOf W b L = ⟨ge, gf, gu, gp⟩ := by
    unfold Syn.lvOf
    simp only [hp, hu, hf, he]
  rw [e]
  exact ⟨kp, ku, kf, ke⟩
theorem lvOf_c {W : Syn.Ws} (hW : WsOk W) {p : Nat} {D : Int} (hd1 : 1 ≤ D) (hd2 : D ≤ 30) {L : Syn.Lv} (k : LvK W L) (hb : D ≠ 30 → LvC G W p (D + 1) L) : LvC G W p D (Syn.lvOf W (decide (D = 30)) L) := by
  have hin := p_inner hd1 hd2 (fun e => p_expr (hb e).expr)
  have hmer := p_merged hd1 hd2 (fun e => (hb e).prim)
  have hprim := p_prim hW hin (inner_keeps k.expr) hmer (inner_keeps k.prim)
  have kp := prim_keeps hW (inner_keeps (b := decide (D = 30)) k.expr) (inner_keeps (b := decide (D = 30)) k.prim)
  have hun := p_un hW hd1 hd2 hprim (fun e => (hb e).un)
  have ku := un_keeps hW (decide (D = 30)) kp k.un
  have hwhen := p_when hW hun ku
  have kw := when_keeps hW ku
  have hfbyR := p_right hW hd1 hd2 hwhen kw (fun e => (hb e).fby)
  have kf := right_keeps hW [102, 98, 121] (decide (D = 30)) kw k.fby
  have hmul := p_mul hW (p_fby hfbyR) kf
  have km := row_keeps hW [[42], [47], [109, 111, 100]] kf
  have hadd := p_add hW hmul km
  have ka := row_keeps hW [[43], [45]] km
  have hcmp := p_cmp hW hadd ka
  have kc := cmp_keeps hW ka
  have hand := p_and hW hcmp kc
  have kn := row_keeps hW [[97, 110, 100]] kc
  have hor := p_or hW hand kn
  have ko := row_keeps hW [[111, 114], [120, 111, 114]] kn
  have hex := p_right hW hd1 hd2 hor ko (fun e => (hb e).expr)
  generalize hp : Syn.prim W (Syn.inner W (decide (D = 30)) L.expr) (Syn.inner W (decide (D = 30)) L.prim) = gp at *
  generalize hu : Syn.un W gp (decide (D = 30)) L.un = gu at *
  generalize hf : Syn.right W (Syn.when_ W gu) [102, 98, 121] (decide (D = 30)) L.fby = gf at *
  generalize he : Syn.right W (Syn.row W (Syn.row W (Syn.cmp W (Syn.row W (Syn.row W gf [[42], [47], [109, 111, 100]]) [[43], [45]])) [[97, 110, 100]]) [[111, 114], [120, 111, 114]]) [45, 62] (decide (D = 30)) L.expr = ge at *
  have e : Syn.lvOf W (decide (D = 30)) L = ⟨ge, gf, gu, gp⟩ := by
    unfold Syn.lvOf
    simp only [hp, hu, hf, he]
  rw [e]
  exact ⟨hprim, hun, hfbyR, hex⟩
theorem zero_k (W : Syn.Ws) : LvK W ⟨fun s => (.zero, s), fun s => (.zero, s), fun s => (.zero, s), fun s => (.zero, s)⟩ :=
  ⟨keeps_of fun s => Kp.refl s, keeps_of fun s => Kp.refl s, keeps_of fun s => Kp.refl s, keeps_of fun s => Kp.refl s⟩
theorem lv_k {W : Syn.Ws} (hW : WsOk W) : ∀ d, LvK W (Syn.lv W d)
  | 0 => lvOf_k hW true (zero_k W)
  | d + 1 => lvOf_k hW false (lv_k hW d)
theorem lv_c {W : Syn.Ws} (hW : WsOk W) (p : Nat) : ∀ d : Nat, d ≤ 29 → LvC G W p (30 - d) (Syn.lv W d)
  | 0, _ => by
    have h := lvOf_c (G := G) hW (p := p) (D := 30) (by omega) (by omega) (zero_k W) (fun e => absurd rfl e)
    exact h
  | d + 1, hd => by
    have ih := lv_c hW p d (by omega)
    have e : (30 : Int) - ((d + 1 : Nat) : Int) + 1 = 30 - d := by omega
    have h := lvOf_c (G := G) hW (p := p) (D := 30 - ((d + 1 : Nat) : Int)) (by omega) (by omega) (lv_k hW d) (fun _ => by rw [e]; exact ih)
    have e2 : decide ((30 : Int) - ((d + 1 : Nat) : Int) = 30) = false := by
      rw [decide_eq_false_iff_not]; omega
    rw [e2] at h
    exact h
theorem p_top {W : Syn.Ws} (hW : WsOk W) (p : Nat) : Reads G W p 221 1 (Syn.lv W 29).expr := p_expr (lv_c hW p 29 (by omega)).expr
theorem top_keeps {W : Syn.Ws} (hW : WsOk W) : Keeps W (Syn.lv W 29).expr := (lv_k hW 29).expr
end Go.Proofs.YtnhomjhfaoipmaaGreatDoor

namespace Go.Proofs.YtnhomjhfaoipmaaGreatDoor
open Go Go.Abs Go.Lex
set_option linter.unusedSimpArgs false
variable {G : Nat → Option AV}
def vaCells (v : Syn.Va) : List AV := [.str v.name, .int .i64 v.kind, .str v.on, .bool v.neg, .int .i64 v.pos]
def vasCells : List Syn.Va → List AV
  | [] => []
  | v :: l => vaCells v ++ vasCells l
theorem vasCells_len : ∀ l : List Syn.Va, (vasCells l).length = l.length * 5
  | [] => rfl
  | v :: l => by rw [vasCells, List.length_append, vasCells_len l]; simp [vaCells]; omega
theorem vasCells_append : ∀ a b : List Syn.Va, vasCells (a ++ b) = vasCells a ++ vasCells b
  | [], b => rfl
  | v :: a, b => by rw [List.cons_append, vasCells, vasCells, vasCells_append a b, List.append_assoc]
theorem vasCells_lt (n : Nat) : ∀ l : List Syn.Va, AV.allLt n (vasCells l) = true
  | [] => rfl
  | v :: l => by rw [vasCells, allLt_app, vasCells_lt n l]; simp [vaCells, AV.allLt, AV.idLt]
theorem vasCells_scalar : ∀ l : List Syn.Va, ∀ x ∈ vasCells l, x.scalar = true
  | [], x, h => by simp [vasCells] at h
  | v :: l, x, h => by
    simp only [vasCells, vaCells, List.cons_append, List.nil_append, List.mem_cons] at h
    rcases h with rfl | rfl | rfl | rfl | rfl | h
    · rfl
    · rfl
    · rfl
    · rfl
    · rfl
    · exact vasCells_scalar l x h
theorem kp_declared {W : Syn.Ws} (hW : WsOk W) (s : Syn.St) : Kp W s (Syn.declared W s).2 := by
  have h1 : ∀ s' : Syn.St, s'.i = s.i → s'.err = s.err → Kp W s s' := fun s' e1 e2 hi => ⟨by omega, by unfold mu; rw [e1, e2]; exact Nat.le_refl _⟩
  unfold Syn.declared
  simp only
  refine Kp.trans ?_ (kp_name hW _)
  split
  · split
    · exact (h1 { s with names := Syn.wrap (s.names + 1) } rfl rfl).trans (kp_fail (by omega) _)
    · exact h1 _ rfl rfl
  · exact Kp.refl s
set_option maxHeartbeats 4000000 in
set_option maxRecDepth 100000 in
theorem p_declared {W : Syn.Ws} (hW : WsOk W) {s : Syn.St} {p : Nat} {H : AHeap} (h : PAt H p W s) (hi : s.i < W.length) : Does Tryz.prog G 315 [.ptr p 0] H fun r H' => r = .agg (vaCells (Syn.declared W s).1) ∧ H' = H.set p (.cells (stCells W (Syn.declared W s).2)) := by
  refine Does.deep (R := fun r H' => r = .agg (vaCells (Syn.declared W s).1) ∧ H'.get p = some (.cells (stCells W (Syn.declared W s).2)) ∧ ∀ j x, j ≠ p → H.get j = some x → H'.get j = some x) ?_ ?_
  · refine Does.wf Tryz.call315 fun hw _ => ?_
    have old : ∀ j x, H.get j = some x → j ≠ H.next ∧ j ≠ H.next + 1 := fun j x hj => by have := next_lt hw hj; omega
    refine does_f Tryz.call315 Tryz.func315 rfl (by simp [Tryz.f315]) ?_
    obtain ⟨hp1, hp2⟩ := old _ _ h
    have hq1 := Ne.symm hp1
    have hq2 := Ne.symm hp2
    have hw2 : IntKind.i64.wrap (s.names + 1) = Syn.wrap (s.names + 1) := wrap_eq _
    simp
    refine does_use (p_word (W := W) (s := s) (by unfold PAt; simp [hp1]; exact h) hi) ?_
    rintro _ H1 ⟨rfl, rfl⟩
    have h' := h
    unfold PAt stCells at h'
    simp [wdCells]
    by_cases hk : (Syn.at_ W s).2.kind = 1
    · have hk' : ((((Syn.at_ W s).2.kind : Nat) : Int) = 1) = True := eq_true (by omega)
      by_cases hc : 64 < Syn.wrap (s.names + 1)
      · simp [hk', h', hp1, hp2, hw2, hc]
        refine does_use (p_fail (W := W) (s := { s with names := Syn.wrap (s.names + 1) }) (by unfold PAt stCells; simp) hi 2) ?_
        rintro _ H2 ⟨rfl, rfl⟩
        have hi2 : (Syn.fail W 2 { s with names := Syn.wrap (s.names + 1) }).i < W.length := by rw [fail_i]; exact hi
        obtain ⟨s1, hs1⟩ : ∃ s1, s1 = Syn.fail W 2 { s with names := Syn.wrap (s.names + 1) } := ⟨_, rfl⟩
        have hd : Syn.declared W s = (⟨(Syn.name W s1).1, 0, [], false, (Syn.at_ W s).1⟩, (Syn.name W s1).2) := by
          unfold Syn.declared
          simp only [hk, if_true, hc, ← hs1]
        rw [← hs1] at hi2 ⊢
        rcases hn : Syn.name W s1 with ⟨nm, s2⟩
        rw [hn] at hd
        simp [hp1, hp2, hq1, hq2]
        refine aw_drawn [(3, 0), (3, 2)] mixedOrders (by kernel_rfl) ?_
        intro es hes
        simp
        refine ⟨_, _, p_name hW (PAt.set _) hi2, by simp, ?_⟩
        simp [hn, hp1, hp2, hq1, hq2, rds, heapF]
        refine ⟨?_, ?_⟩
        · subst hes
          exact ⟨by kernel_rfl, by kernel_rfl⟩
        rw [hd]
        simp [vaCells, hp1, hp2]
        intro j x hjp hj
        obtain ⟨k1, k2⟩ := old j x hj
        simp [hj, hjp, k1, k2]
      · simp [hk', h', hp1, hp2, hw2, hc]
        obtain ⟨s1, hs1⟩ : ∃ s1 : Syn.St, s1 = { s with names := Syn.wrap (s.names + 1) } := ⟨_, rfl⟩
        have hd : Syn.declared W s = (⟨(Syn.name W s1).1, 0, [], false, (Syn.at_ W s).1⟩, (Syn.name W s1).2) := by
          unfold Syn.declared
          simp only [hk, if_true, hc, if_false, ← hs1]
        have hi2 : s1.i < W.length := by rw [hs1]; exact hi
        rcases hn : Syn.name W s1 with ⟨nm, s2⟩
        rw [hn] at hd
        refine aw_drawn [(3, 0), (3, 2)] mixedOrders (by kernel_rfl) ?_
        intro es hes
        simp
        refine ⟨_, _, p_name hW (W := W) (s := s1) (by unfold PAt; rw [hs1]; simp [stCells]) hi2, by simp, ?_⟩
        simp [hn, hp1, hp2, hq1, hq2, rds, heapF]
        refine ⟨?_, ?_⟩
        · subst hes
          exact ⟨by kernel_rfl, by kernel_rfl⟩
        rw [hd]
        simp [vaCells, hp1, hp2]
        intro j x hjp hj
        obtain ⟨k1, k2⟩ := old j x hj
        simp [hj, hjp, k1, k2]
    · have hk' : ((((Syn.at_ W s).2.kind : Nat) : Int) = 1) = False := eq_false (by omega)
      have hd : Syn.declared W s = (⟨(Syn.name W s).1, 0, [], false, (Syn.at_ W s).1⟩, (Syn.name W s).2) := by
        unfold Syn.declared
        simp only [hk, if_false]
      rcases hn : Syn.name W s with ⟨nm, s2⟩
      rw [hn] at hd
      simp [hk', h', hp1, hp2]
      refine aw_drawn [(3, 0), (3, 2)] mixedOrders (by kernel_rfl) ?_
      intro es hes
      simp
      refine ⟨_, _, p_name hW (W := W) (s := s) (by unfold PAt stCells; simp [hp1, hp2, h']) hi, by simp, ?_⟩
      simp [hn, hp1, hp2, hq1, hq2, rds, heapF]
      refine ⟨?_, ?_⟩
      · subst hes
        exact ⟨by kernel_rfl, by kernel_rfl⟩
      rw [hd]
      simp [vaCells, hp1, hp2]
      intro j x hjp hj
      obtain ⟨k1, k2⟩ := old j x hj
      simp [hj, hjp, k1, k2]
  · rintro hw ha r H1 ⟨rfl, h1, h2⟩
    exact ⟨_, H.set p (.cells (stCells W (Syn.declared W s).2)), .old (by simp [AV.idLt, AV.allLt, vaCells]), rfl, set_back hw h h1 h2, rfl, rfl⟩
end Go.Proofs.YtnhomjhfaoipmaaGreatDoor

namespace Go.Proofs.YtnhomjhfaoipmaaGreatDoor
open Go Go.Abs Go.Lex
set_option linter.unusedSimpArgs false
variable {G : Nat → Option AV}
def setK (k : Nat) (v : Syn.Va) : Syn.Va := { v with kind := k }
def DeclR (H : AHeap) (p : Nat) (W : Syn.Ws) (x : List Syn.Va × Syn.St) (r : AV) (H' : AHeap) : Prop :=
  (∃ b op, r = .sl b 0 5 x.1.length x.1.length op ∧ H.next ≤ b ∧ H'.get b = some (.cells (vasCells x.1))) ∧ H'.get p = some (.cells (stCells W x.2)) ∧ ∀ j y, j ≠ p → H.get j = some y → H'.get j = some y
theorem vas_put (a c : List Syn.Va) (v : Syn.Va) (k : Nat) : List.take (a.length * 5 + 1) (vasCells (a ++ v :: c)) ++ .int .i64 k :: List.drop (a.length * 5 + 1 + 1) (vasCells (a ++ v :: c)) = vasCells ((a ++ [setK k v]) ++ c) := by
  rw [vasCells_append, vasCells_append, vasCells_append]
  have h1 : (vasCells a).length = a.length * 5 := vasCells_len a
  rw [List.take_append, List.drop_append, h1]
  have e1 : List.take (a.length * 5 + 1) (vasCells a) = vasCells a := by rw [List.take_of_length_le]; omega
  have e2 : List.drop (a.length * 5 + 1 + 1) (vasCells a) = [] := by rw [List.drop_of_length_le]; omega
  have e3 : a.length * 5 + 1 - a.length * 5 = 1 := by omega
  have e4 : a.length * 5 + 1 + 1 - a.length * 5 = 2 := by omega
  rw [e1, e2, e3, e4]
  simp [vasCells, vaCells, setK]
theorem declL_kp {W : Syn.Ws} (hW : WsOk W) : ∀ (m : Nat) (l : List Syn.Va) (s : Syn.St), Kp W s (Syn.declL W m l s).2
  | 0, l, s => Kp.refl s
  | m + 1, l, s => by
    unfold Syn.declL
    split
    · rename_i ho
      have h1 := kp_succ hW (is_kind ho).2
      have h2 := kp_declared hW { s with i := s.i + 1 }
      rcases hx : Syn.declared W { s with i := s.i + 1 } with ⟨v, s2⟩
      rw [hx] at h2
      simp only at h2 ⊢
      exact h1.trans (h2.trans (declL_kp hW m _ _))
    · exact Kp.refl s
theorem kp_decl {W : Syn.Ws} (hW : WsOk W) (s : Syn.St) : Kp W s (Syn.decl W s).2 := by
  unfold Syn.decl
  have h1 := kp_declared hW s
  rcases hx : Syn.declared W s with ⟨v, s1⟩
  rw [hx] at h1
  simp only at h1 ⊢
  have h2 := declL_kp hW (W.length + 1) [v] s1
  rcases hy : Syn.declL W (W.length + 1) [v] s1 with ⟨l, s2⟩
  rw [hy] at h2
  simp only at h2 ⊢
  have h3 := kp_want1 hW s2 [58]
  split
  · rename_i ho
    exact h1.trans (h2.trans (h3.trans (kp_succ hW (is_kind ho).2)))
  split
  · rename_i ho
    exact h1.trans (h2.trans (h3.trans (kp_succ hW (is_kind ho).2)))
  · exact h1.trans (h2.trans (h3.trans (kp_fail (by omega) _)))
set_option maxHeartbeats 8000000 in
set_option maxRecDepth 100000 in
theorem p_decl {W : Syn.Ws} (hW : WsOk W) {s : Syn.St} {p : Nat} {H : AHeap} (h : PAt H p W s) (hi : s.i < W.length) : Does Tryz.prog G 268 [.ptr p 0] H (DeclR H p W (Syn.decl W s)) := by
  refine Does.wf Tryz.call268 fun hw _ => ?_
  have old : ∀ j x, H.get j = some x → j < H.next := fun j x hj => next_lt hw hj
  refine does_f Tryz.call268 Tryz.func268 rfl (by simp [Tryz.f268]) ?_
  have hpl := old _ _ h
  have hp1 : p ≠ H.next := by omega
  have hq1 := Ne.symm hp1
  simp
  refine does_use (p_declared hW h hi) ?_
  rintro _ H1 ⟨rfl, rfl⟩
  have hi1 := (kp_declared hW s hi).1
  rcases hx : Syn.declared W s with ⟨v0, s1⟩
  rw [hx] at hi1
  simp only at hi1
  simp [vaCells, hp1, hq1]
  have hsm := hW.small
  refine aws_loopw (fun m T' H' => ∃ l s' b opn, Syn.declL W m l s' = Syn.declL W (W.length + 1) [v0] s1 ∧ mu W s' < m ∧ s'.i < W.length ∧ l.length + m ≤ W.length + 2 ∧
    T' 0 = .ptr p 0 ∧ T' 3 = .sl b 0 5 l.length l.length opn ∧ H'.get b = some (.cells (vasCells l)) ∧ H.next ≤ b ∧ PAt H' p W s' ∧ (∀ x y, x ≠ p → H.get x = some y → H'.get x = some y)) (W.length + 1) ?_ ?_
  · refine ⟨_, _, H.next, false, rfl, ?_, hi1, by simp; omega, by simp, by simp, by simp [vasCells, vaCells], by omega, by unfold PAt; simp [hp1], fun x y hxp hxy => ?_⟩
    · unfold mu; split <;> omega
    · have := old x y hxy
      have k1 : x ≠ H.next := by omega
      simp [hxy, hxp, k1]
  rintro m T H1 ⟨l, s', b, opn, hargs, hmu, hi', hlm, t0, t3, hb, hbn, hP, hkeep⟩ hw1 _
  have hN := next_lt hw1 hb
  have hp2 : p ≠ H1.next := by omega
  have hp3 : p ≠ H1.next + 1 := by omega
  have hq2 := Ne.symm hp2
  have hq3 := Ne.symm hp3
  have hpb : p ≠ b := by omega
  have hqb := Ne.symm hpb
  have n1 : b ≠ H1.next := by omega
  have n2 : b ≠ H1.next + 1 := by omega
  have n3 := Ne.symm n1
  have n4 := Ne.symm n2
  obtain ⟨k, rfl⟩ : ∃ k, m = k + 1 := ⟨m - 1, by omega⟩
  simp [t0, t3]
  refine does_use (p_take hW hP hi' [44]) ?_
  rintro _ H2 ⟨rfl, rfl⟩
  by_cases ho : Syn.is W s' [44] = true
  · have hi2 := ok_succ hW hi' (is_kind ho).2
    have hm2 : mu W { s' with i := s'.i + 1 } < mu W s' := by
      have h0 := (is_kind ho).1
      unfold mu
      simp only [h0, if_true]
      omega
    simp [Syn.take, ho, t0, t3]
    refine does_use (p_declared hW (W := W) (s := { s' with i := s'.i + 1 }) (PAt.set _) hi2) ?_
    rintro _ H3 ⟨rfl, rfl⟩
    obtain ⟨hi4, hm4⟩ := kp_declared hW { s' with i := s'.i + 1 } hi2
    rcases hy : Syn.declared W { s' with i := s'.i + 1 } with ⟨v, s4⟩
    rw [hy] at hi4 hm4
    simp only at hi4 hm4
    have hgrow : ¬ (l.length + 1 ≤ l.length) := by omega
    have g1 : (l.length + 1) * 56 ≤ 140737488355328 := by omega
    have g2 : l.length ≤ 4611686018427387903 := by omega
    have g3 : List.take (l.length * 5) (vasCells l) = vasCells l := by rw [List.take_of_length_le]; rw [vasCells_len]; omega
    have g4 : l.length * 5 ≤ (vasCells l).length := by rw [vasCells_len]; omega
    cases opn <;> simp [vaCells, t0, t3, hb, hpb, hqb, hp2, hp3, hq2, hq3, n1, n2, n3, n4, hgrow, g1, g2, g3, g4]
    all_goals
      refine ⟨k, by omega, l ++ [v], s4, by rw [← hargs]; simp [Syn.declL, ho, hy], by omega, hi4, by simp; omega, H1.next + 1, ⟨rfl, by simp⟩, by simp [vasCells_append, vasCells, vaCells], by omega, ?_, ?_⟩
      · unfold PAt
        simp [hp2, hp3, hpb]
      · intro x y hxp hxy
        have := old x y hxy
        have k1 : x ≠ H1.next := by omega
        have k2 : x ≠ H1.next + 1 := by omega
        have k3 : x ≠ b := by omega
        simp [hxp, k1, k2, k3, hkeep x y hxp hxy]
  · have ho' : Syn.is W s' [44] = false := by simpa using ho
    simp [Syn.take, ho', t0, t3]
    refine does_use (p_want hW (W := W) (s := s') (by unfold PAt; simp [hp2]) hi' [[58]] H1.next 1 false (by simp) hq2 (by simp)) ?_
    rintro _ H2 ⟨rfl, rfl⟩
    have hw1' : Syn.want W s' [[58]] = Syn.want1 W s' [58] := rfl
    rw [hw1']
    obtain ⟨s3, hs3⟩ : ∃ s3, s3 = Syn.want1 W s' [58] := ⟨_, rfl⟩
    have hi3 : s3.i < W.length := by rw [hs3]; exact want1_ok hW hi' _
    have hdec : Syn.decl W s = (if Syn.is W s3 [98, 111, 111, 108] then (l.map (setK 1), { s3 with i := s3.i + 1 }) else if Syn.is W s3 [105, 110, 116] then (l.map (setK 2), { s3 with i := s3.i + 1 }) else (l.map (setK 0), Syn.fail W 7 s3)) := by
      simp only [Syn.decl, hx]
      rw [← hargs]
      simp only [Syn.declL, ho', Bool.false_eq_true, if_false, ← hs3]
      rfl
    rw [← hs3]
    simp [t0, t3, hp2, hq2]
    refine does_use (p_take hW (W := W) (s := s3) (by unfold PAt; simp [hp2]) hi3 [98, 111, 111, 108]) ?_
    rintro _ H2 ⟨rfl, rfl⟩
    by_cases hB : Syn.is W s3 [98, 111, 111, 108] = true
    · have hdec' : Syn.decl W s = (l.map (setK 1), { s3 with i := s3.i + 1 }) := by rw [hdec, if_pos hB]
      simp [Syn.take, hB, t0, t3]
      refine aws_loopw (fun m T' H' => ∃ a c, l = a ++ c ∧ m = c.length ∧ T' 0 = .ptr p 0 ∧ T' 3 = .sl b 0 5 l.length l.length opn ∧ T' 4 = .int .i64 1 ∧ T' 28 = .int .i64 l.length ∧ T' 29 = .int .i64 a.length ∧
        H'.get b = some (.cells (vasCells (a.map (setK 1) ++ c))) ∧ H'.get p = some (.cells (stCells W ({ s3 with i := s3.i + 1 }))) ∧ (∀ x y, x ≠ p → H.get x = some y → H'.get x = some y)) l.length ⟨[], l, rfl, rfl, by simp [t0], by simp [t3], by simp, by simp, by simp, by simp [hb, hpb, hqb, n1, n3], by simp [hp2], fun x y hxp hxy => ?_⟩ ?_
      · have := old x y hxy
        have k1 : x ≠ H1.next := by omega
        simp [hxp, k1, hkeep x y hxp hxy]
      clear t0 t3
      rintro m T H2 ⟨a, c, hac, rfl, t0, t3, t4, t28, t29, hb2, hP2, hkeep2⟩ hw2 _
      have hlen : a.length + c.length = l.length := by rw [hac]; simp
      cases c with
      | nil =>
        have ha : a.length = l.length := by simpa using hlen
        rw [List.append_nil] at hac
        subst hac
        simp [t0, t3, t4, t28, t29]
        rw [hdec']
        refine ⟨⟨b, opn, by simp, hbn, by simpa using hb2⟩, hP2, hkeep2⟩
      | cons v c =>
        simp only [List.length_cons] at hlen
        have hlt : (a.length : Int) < l.length := by omega
        have hlt2 : a.length < l.length := by omega
        have hlt3 : a.length ≤ l.length := by omega
        have hwa : IntKind.i64.wrap ((a.length : Int) + 1) = a.length + 1 := IntWalk.i64_in _ (by omega)
        have hcl : (vasCells (a.map (setK 1) ++ v :: c)).length = l.length * 5 := by rw [vasCells_len]; simp; omega
        have hb3 : a.length * 5 + 1 + 1 ≤ l.length * 5 := by omega
        have hput := vas_put (a.map (setK 1)) c v 1
        rw [List.length_map] at hput
        simp [t0, t3, t4, t28, t29, hlt, hlt2, hlt3, hb2, hcl, hb3, hpb, hqb, hwa]
        refine ⟨c.length, by omega, a ++ [v], c, by rw [hac]; simp, rfl, by simp, by simpa using hput, hP2, fun x y hxp hxy => ?_⟩
        have := old x y hxy
        have k1 : x ≠ b := by omega
        simp [k1, hkeep2 x y hxp hxy]
    · have hB' : Syn.is W s3 [98, 111, 111, 108] = false := by simpa using hB
      simp [Syn.take, hB', t0, t3]
      refine does_use (p_take hW (W := W) (s := s3) (by unfold PAt; simp [hp2]) hi3 [105, 110, 116]) ?_
      rintro _ H2 ⟨rfl, rfl⟩
      by_cases hI : Syn.is W s3 [105, 110, 116] = true
      · have hdec' : Syn.decl W s = (l.map (setK 2), { s3 with i := s3.i + 1 }) := by rw [hdec, if_neg hB, if_pos hI]
        simp [Syn.take, hI, t0, t3]
        refine aws_loopw (fun m T' H' => ∃ a c, l = a ++ c ∧ m = c.length ∧ T' 0 = .ptr p 0 ∧ T' 3 = .sl b 0 5 l.length l.length opn ∧ T' 4 = .int .i64 2 ∧ T' 28 = .int .i64 l.length ∧ T' 29 = .int .i64 a.length ∧
          H'.get b = some (.cells (vasCells (a.map (setK 2) ++ c))) ∧ H'.get p = some (.cells (stCells W ({ s3 with i := s3.i + 1 }))) ∧ (∀ x y, x ≠ p → H.get x = some y → H'.get x = some y)) l.length ⟨[], l, rfl, rfl, by simp [t0], by simp [t3], by simp, by simp, by simp, by simp [hb, hpb, hqb, n1, n3], by simp [hp2], fun x y hxp hxy => ?_⟩ ?_
        · have := old x y hxy
          have k1 : x ≠ H1.next := by omega
          simp [hxp, k1, hkeep x y hxp hxy]
        clear t0 t3
        rintro m T H2 ⟨a, c, hac, rfl, t0, t3, t4, t28, t29, hb2, hP2, hkeep2⟩ hw2 _
        have hlen : a.length + c.length = l.length := by rw [hac]; simp
        cases c with
        | nil =>
          have ha : a.length = l.length := by simpa using hlen
          rw [List.append_nil] at hac
          subst hac
          simp [t0, t3, t4, t28, t29]
          rw [hdec']
          refine ⟨⟨b, opn, by simp, hbn, by simpa using hb2⟩, hP2, hkeep2⟩
        | cons v c =>
          simp only [List.length_cons] at hlen
          have hlt : (a.length : Int) < l.length := by omega
          have hlt2 : a.length < l.length := by omega
          have hlt3 : a.length ≤ l.length := by omega
          have hwa : IntKind.i64.wrap ((a.length : Int) + 1) = a.length + 1 := IntWalk.i64_in _ (by omega)
          have hcl : (vasCells (a.map (setK 2) ++ v :: c)).length = l.length * 5 := by rw [vasCells_len]; simp; omega
          have hb3 : a.length * 5 + 1 + 1 ≤ l.length * 5 := by omega
          have hput := vas_put (a.map (setK 2)) c v 2
          rw [List.length_map] at hput
          simp [t0, t3, t4, t28, t29, hlt, hlt2, hlt3, hb2, hcl, hb3, hpb, hqb, hwa]
          refine ⟨c.length, by omega, a ++ [v], c, by rw [hac]; simp, rfl, by simp, by simpa using hput, hP2, fun x y hxp hxy => ?_⟩
          have := old x y hxy
          have k1 : x ≠ b := by omega
          simp [k1, hkeep2 x y hxp hxy]
      · have hI' : Syn.is W s3 [105, 110, 116] = false := by simpa using hI
        have hdec' : Syn.decl W s = (l.map (setK 0), Syn.fail W 7 s3) := by rw [hdec, if_neg hB, if_neg hI]
        simp [Syn.take, hI', t0, t3]
        refine does_use (p_fail (W := W) (s := s3) (by unfold PAt; simp [hp2]) hi3 7) ?_
        rintro _ H2 ⟨rfl, rfl⟩
        simp [t0, t3]
        refine aws_loopw (fun m T' H' => ∃ a c, l = a ++ c ∧ m = c.length ∧ T' 0 = .ptr p 0 ∧ T' 3 = .sl b 0 5 l.length l.length opn ∧ T' 4 = .int .i64 0 ∧ T' 28 = .int .i64 l.length ∧ T' 29 = .int .i64 a.length ∧
          H'.get b = some (.cells (vasCells (a.map (setK 0) ++ c))) ∧ H'.get p = some (.cells (stCells W (Syn.fail W 7 s3))) ∧ (∀ x y, x ≠ p → H.get x = some y → H'.get x = some y)) l.length ⟨[], l, rfl, rfl, by simp [t0], by simp [t3], by simp, by simp, by simp, by simp [hb, hpb, hqb, n1, n3], by simp [hp2], fun x y hxp hxy => ?_⟩ ?_
        · have := old x y hxy
          have k1 : x ≠ H1.next := by omega
          simp [hxp, k1, hkeep x y hxp hxy]
        clear t0 t3
        rintro m T H2 ⟨a, c, hac, rfl, t0, t3, t4, t28, t29, hb2, hP2, hkeep2⟩ hw2 _
        have hlen : a.length + c.length = l.length := by rw [hac]; simp
        cases c with
        | nil =>
          have ha : a.length = l.length := by simpa using hlen
          rw [List.append_nil] at hac
          subst hac
          simp [t0, t3, t4, t28, t29]
          rw [hdec']
          refine ⟨⟨b, opn, by simp, hbn, by simpa using hb2⟩, hP2, hkeep2⟩
        | cons v c =>
          simp only [List.length_cons] at hlen
          have hlt : (a.length : Int) < l.length := by omega
          have hlt2 : a.length < l.length := by omega
          have hlt3 : a.length ≤ l.length := by omega
          have hwa : IntKind.i64.wrap ((a.length : Int) + 1) = a.length + 1 := IntWalk.i64_in _ (by omega)
          have hcl : (vasCells (a.map (setK 0) ++ v :: c)).length = l.length * 5 := by rw [vasCells_len]; simp; omega
          have hb3 : a.length * 5 + 1 + 1 ≤ l.length * 5 := by omega
          have hput := vas_put (a.map (setK 0)) c v 0
          rw [List.length_map] at hput
          simp [t0, t3, t4, t28, t29, hlt, hlt2, hlt3, hb2, hcl, hb3, hpb, hqb, hwa]
          refine ⟨c.length, by omega, a ++ [v], c, by rw [hac]; simp, rfl, by simp, by simpa using hput, hP2, fun x y hxp hxy => ?_⟩
          have := old x y hxy
          have k1 : x ≠ b := by omega
          simp [k1, hkeep2 x y hxp hxy]
end Go.Proofs.YtnhomjhfaoipmaaGreatDoor

namespace Go.Proofs.YtnhomjhfaoipmaaGreatDoor
open Go Go.Abs Go.Lex
set_option linter.unusedSimpArgs false
variable {G : Nat → Option AV}
theorem declL_ne {W : Syn.Ws} : ∀ (m : Nat) (l : List Syn.Va) (s : Syn.St), l ≠ [] → (Syn.declL W m l s).1 ≠ [] ∧ (Syn.declL W m l s).1.length ≤ l.length + m
  | 0, l, s, h => ⟨h, by simp [Syn.declL]⟩
  | m + 1, l, s, h => by
    unfold Syn.declL
    split
    · rcases hx : Syn.declared W { s with i := s.i + 1 } with ⟨v, s2⟩
      simp only
      obtain ⟨h1, h2⟩ := declL_ne m (l ++ [v]) s2 (by simp)
      refine ⟨h1, ?_⟩
      simp at h2
      omega
    · exact ⟨h, by simp only; omega⟩
theorem decl_ne (W : Syn.Ws) (s : Syn.St) : (Syn.decl W s).1 ≠ [] ∧ (Syn.decl W s).1.length ≤ W.length + 2 := by
  unfold Syn.decl
  rcases hx : Syn.declared W s with ⟨v, s1⟩
  simp only
  obtain ⟨h1, h2⟩ := declL_ne (W := W) (W.length + 1) [v] s1 (by simp)
  rcases hy : Syn.declL W (W.length + 1) [v] s1 with ⟨l, s2⟩
  rw [hy] at h1 h2
  simp only at h1 h2 ⊢
  simp at h2
  split
  · exact ⟨by simpa using h1, by simp; omega⟩
  split
  · exact ⟨by simpa using h1, by simp; omega⟩
  · exact ⟨by simpa using h1, by simp; omega⟩
def VsR (n : Nat) (H' : AHeap) (r : AV) (l : List Syn.Va) : Prop := (l = [] ∧ r = .nilsl) ∨ l ≠ [] ∧ ∃ b op, r = .sl b 0 5 l.length l.length op ∧ n ≤ b ∧ H'.get b = some (.cells (vasCells l))
def DeclsR (H : AHeap) (p : Nat) (W : Syn.Ws) (x : List Syn.Va × Syn.St) (r : AV) (H' : AHeap) : Prop :=
  VsR H.next H' r x.1 ∧ H'.get p = some (.cells (stCells W x.2)) ∧ ∀ j y, j ≠ p → H.get j = some y → H'.get j = some y
theorem declsL_kp {W : Syn.Ws} (hW : WsOk W) : ∀ (m : Nat) (l : List Syn.Va) (s : Syn.St), Kp W s (Syn.declsL W m l s).2
  | 0, l, s => Kp.refl s
  | m + 1, l, s => by
    unfold Syn.declsL
    split
    · rename_i ho
      have h1 := kp_succ hW (is_kind ho).2
      have h2 := kp_decl hW { s with i := s.i + 1 }
      rcases hx : Syn.decl W { s with i := s.i + 1 } with ⟨v, s2⟩
      rw [hx] at h2
      simp only at h2 ⊢
      exact h1.trans (h2.trans (declsL_kp hW m _ _))
    · exact Kp.refl s
theorem kp_decls {W : Syn.Ws} (hW : WsOk W) (s : Syn.St) : Kp W s (Syn.decls W s).2 := by
  unfold Syn.decls
  split
  · exact Kp.refl s
  · have h1 := kp_decl hW s
    rcases hx : Syn.decl W s with ⟨l, s1⟩
    rw [hx] at h1
    simp only at h1 ⊢
    exact h1.trans (declsL_kp hW _ _ _)
set_option maxHeartbeats 8000000 in
set_option maxRecDepth 100000 in
theorem p_decls {W : Syn.Ws} (hW : WsOk W) {s : Syn.St} {p : Nat} {H : AHeap} (h : PAt H p W s) (hi : s.i < W.length) : Does Tryz.prog G 218 [.ptr p 0] H (DeclsR H p W (Syn.decls W s)) := by
  refine Does.wf Tryz.call218 fun hw _ => ?_
  have old : ∀ j x, H.get j = some x → j < H.next := fun j x hj => next_lt hw hj
  refine does_f Tryz.call218 Tryz.func218 rfl (by simp [Tryz.f218]) ?_
  have hpl := old _ _ h
  simp
  refine does_use (p_word h hi) ?_
  rintro _ H1 ⟨rfl, rfl⟩
  by_cases hk : (Syn.at_ W s).2.kind = 1
  · have hk' : ((((Syn.at_ W s).2.kind : Nat) : Int) != 1) = false := by simp; omega
    simp [wdCells, hk']
    refine does_usew (p_decl hW h hi) ?_
    rintro r H2 ⟨⟨b0, op0, hr, hb0, hg0⟩, hP2, hk2⟩ hw2 _
    have hi2 := (kp_decl hW s hi).1
    obtain ⟨hne, hlen0⟩ := decl_ne W s
    rcases hx : Syn.decl W s with ⟨l0, s1⟩
    rw [hx] at hr hg0 hP2 hi2 hne hlen0
    simp only at hr hg0 hP2 hi2 hne hlen0
    subst hr
    simp
    have hsm := hW.small
    obtain ⟨K, hK⟩ : ∃ K, K = W.length + 2 := ⟨_, rfl⟩
    have hK2 : K ≤ 20002 := by omega
    refine aws_loopw (fun m T' H' => ∃ l s' b opn, l ≠ [] ∧ Syn.declsL W m l s' = Syn.declsL W (W.length + 1) l0 s1 ∧ mu W s' < m ∧ s'.i < W.length ∧ l.length + m * K ≤ K + (W.length + 1) * K ∧
      T' 0 = .ptr p 0 ∧ T' 3 = .sl b 0 5 l.length l.length opn ∧ H'.get b = some (.cells (vasCells l)) ∧ H1.next ≤ b ∧ PAt H' p W s' ∧ (∀ x y, x ≠ p → H1.get x = some y → H'.get x = some y)) (W.length + 1) ?_ ?_
    · refine ⟨_, _, b0, op0, hne, rfl, ?_, hi2, by omega, by simp, by simp, hg0, hb0, hP2, hk2⟩
      unfold mu; split <;> omega
    rintro m T H3 ⟨l, s', b, opn, hln, hargs, hmu, hi', hlm, t0, t3, hb, hbn, hP, hkeep⟩ hw1 _
    have hN := next_lt hw1 hb
    have hpb : p ≠ b := by omega
    have hqb := Ne.symm hpb
    obtain ⟨k, rfl⟩ : ∃ k, m = k + 1 := ⟨m - 1, by omega⟩
    simp [t0, t3]
    refine does_use (p_take hW hP hi' [59]) ?_
    rintro _ H4 ⟨rfl, rfl⟩
    by_cases ho : Syn.is W s' [59] = true
    · have hi4 := ok_succ hW hi' (is_kind ho).2
      have hm4 : mu W { s' with i := s'.i + 1 } < mu W s' := by
        have h0 := (is_kind ho).1
        unfold mu
        simp only [h0, if_true]
        omega
      simp [Syn.take, ho, t0, t3]
      refine does_usew (p_decl hW (W := W) (s := { s' with i := s'.i + 1 }) (PAt.set _) hi4) ?_
      rintro r H5 ⟨⟨b2, op2, hr, hb2, hg2⟩, hP5, hk5⟩ hw5 _
      obtain ⟨hi5, hm5⟩ := kp_decl hW { s' with i := s'.i + 1 } hi4
      obtain ⟨hne2, hlen2⟩ := decl_ne W { s' with i := s'.i + 1 }
      rcases hy : Syn.decl W { s' with i := s'.i + 1 } with ⟨l2, s4⟩
      rw [hy] at hr hg2 hP5 hi5 hm5 hne2 hlen2
      simp only at hr hg2 hP5 hi5 hm5 hne2 hlen2
      subst hr
      have hb5 : H5.get b = some (.cells (vasCells l)) := hk5 b _ hqb (by simp [hqb, hb])
      have hN5 := next_lt hw5 hb5
      have hN6 := next_lt hw5 hg2
      have hP6 := next_lt hw5 hP5
      simp at hb2
      have q1 : b ≠ H5.next := by omega
      have q2 : b2 ≠ H5.next := by omega
      have q3 : p ≠ H5.next := by omega
      have q4 : b ≠ b2 := by omega
      have hl2 : l2.length ≠ 0 := by simpa using hne2
      have hgrow : ¬ (l.length + l2.length ≤ l.length) := by omega
      have hmulm : (k + 1) * K = k * K + K := Nat.succ_mul k K
      have hbig : (W.length + 1) * K ≤ 20002 * 20002 := Nat.mul_le_mul (by omega) hK2
      have g1 : (l.length + l2.length) * 56 ≤ 140737488355328 := by omega
      have g2 : l.length + l2.length ≤ 4611686018427387904 := by omega
      have g3 : List.take (l.length * 5) (vasCells l) = vasCells l := by rw [List.take_of_length_le]; rw [vasCells_len]; omega
      have g4 : List.take (l2.length * 5) (vasCells l2) = vasCells l2 := by rw [List.take_of_length_le]; rw [vasCells_len]; omega
      have g5 : (vasCells l).length = l.length * 5 := vasCells_len l
      have g6 : (vasCells l2).length = l2.length * 5 := vasCells_len l2
      have g7 := vasCells_scalar l2
      cases opn <;> simp [t0, t3, hb5, hg2, hgrow, g1, g2, g3, g4, g5, g6, if_pos g7, hl2]
      all_goals
        refine ⟨k, by omega, l ++ l2, by simp [hln], s4, by rw [← hargs]; simp [Syn.declsL, ho, hy], by omega, hi5, by simp; omega, H5.next, ⟨rfl, by simp⟩, by simp [vasCells_append], by omega, ?_, ?_⟩
        · unfold PAt
          simp [q3, hpb, hP5]
        · intro x y hxp hxy
          have := old x y hxy
          have k1 : x ≠ H5.next := by omega
          have k2 : x ≠ b := by omega
          simp [k1, k2, hk5 x y hxp (by simp [hxp, hkeep x y hxp hxy])]
    · have ho' : Syn.is W s' [59] = false := by simpa using ho
      have hdec : Syn.decls W s = (l, s') := by
        simp only [Syn.decls, Syn.kind, hk, hx, ne_eq, not_true_eq_false, if_false]
        rw [← hargs]
        simp [Syn.declsL, ho']
      simp [Syn.take, ho', t0, t3]
      rw [hdec]
      refine ⟨.inr ⟨hln, b, opn, by simp, hbn, by simp [hqb, hb]⟩, by simp, fun x y hxp hxy => ?_⟩
      simp [hxp, hkeep x y hxp hxy]
  · have hk' : ((((Syn.at_ W s).2.kind : Nat) : Int) != 1) = true := by simp; omega
    have hdec : Syn.decls W s = ([], s) := by simp [Syn.decls, Syn.kind, hk]
    simp [wdCells, hk']
    rw [hdec]
    exact ⟨.inl ⟨rfl, rfl⟩, h, fun _ _ _ h => h⟩
def vsV (l : List Syn.Va) : AV := if l.isEmpty then .nilsl else .vsl (vasCells l) l.length
@[simp] theorem vsV_scalar (l : List Syn.Va) : (vsV l).scalar = true := by unfold vsV; split <;> rfl
@[simp] theorem vsV_cells (l : List Syn.Va) : (vsV l).cells = [vsV l] := by unfold vsV; split <;> rfl
theorem vsV_lt (n : Nat) (l : List Syn.Va) : (vsV l).idLt n = true := by
  unfold vsV
  split
  · rfl
  · simpa [AV.idLt] using vasCells_lt n l
theorem VsR.res {n : Nat} {H' : AHeap} {r : AV} {l : List Syn.Va} (h : VsR n H' r l) : ResV H'.get n r (vsV l) := by
  rcases h with ⟨rfl, rfl⟩ | ⟨hl, b, op, rfl, hb, hg⟩
  · exact .old rfl
  · have : vsV l = .vsl (vasCells l) l.length := by unfold vsV; rw [if_neg (by simpa using hl)]
    rw [this]
    refine .sl hb hg ?_
    rw [List.drop_zero, List.take_of_length_le (by rw [vasCells_len]; omega)]
    exact ResL.old (vasCells_lt _ _)
theorem p_decls' {W : Syn.Ws} (hW : WsOk W) {s : Syn.St} {p : Nat} {H : AHeap} (h : PAt H p W s) (hi : s.i < W.length) : Does Tryz.prog G 218 [.ptr p 0] H fun r H' => r = vsV (Syn.decls W s).1 ∧ H' = H.set p (.cells (stCells W (Syn.decls W s).2)) := by
  refine Does.deep (p_decls hW h hi) ?_
  rintro hw ha r H1 ⟨h1, h2, h3⟩
  exact ⟨_, H.set p (.cells (stCells W (Syn.decls W s).2)), h1.res, rfl, set_back hw h h2 h3, rfl, rfl⟩
end Go.Proofs.YtnhomjhfaoipmaaGreatDoor

namespace Go.Proofs.YtnhomjhfaoipmaaGreatDoor
open Go Go.Abs Go.Lex
set_option linter.unusedSimpArgs false
variable {G : Nat → Option AV}
def setOn (nm : Bs) (b : Bool) (v : Syn.Va) : Syn.Va := { v with on := nm, neg := b }
theorem kp_local {W : Syn.Ws} (hW : WsOk W) (s : Syn.St) : Kp W s (Syn.local_ W s).2 := by
  unfold Syn.local_
  have h1 := kp_decl hW s
  rcases hx : Syn.decl W s with ⟨l, s1⟩
  rw [hx] at h1
  simp only at h1 ⊢
  split
  · rename_i ho
    have h2 := kp_succ hW (is_kind ho).2
    have h3 := kp_take hW { s1 with i := s1.i + 1 } [110, 111, 116]
    rcases hy : Syn.take W { s1 with i := s1.i + 1 } [110, 111, 116] with ⟨b, s2⟩
    rw [hy] at h3
    simp only at h3 ⊢
    have h4 := kp_name hW s2
    rcases hz : Syn.name W s2 with ⟨nm, s3⟩
    rw [hz] at h4
    simp only at h4 ⊢
    exact h1.trans (h2.trans (h3.trans h4))
  · exact h1
theorem local_ne (W : Syn.Ws) (s : Syn.St) : (Syn.local_ W s).1 ≠ [] ∧ (Syn.local_ W s).1.length ≤ W.length + 2 := by
  unfold Syn.local_
  have h1 := decl_ne W s
  rcases hx : Syn.decl W s with ⟨l, s1⟩
  rw [hx] at h1
  simp only at h1 ⊢
  split
  · rcases hy : Syn.take W { s1 with i := s1.i + 1 } [110, 111, 116] with ⟨b, s2⟩
    simp only
    rcases hz : Syn.name W s2 with ⟨nm, s3⟩
    simp only
    exact ⟨by simpa using h1.1, by simpa using h1.2⟩
  · exact h1
theorem put_at (P R : List AV) (x0 x1 x2 x3 y z : AV) (m : Nat) (hm : P.length = m) :
    List.take (m + 3) (List.take (m + 2) (P ++ x0 :: x1 :: x2 :: x3 :: R) ++ y :: List.drop (m + 2 + 1) (P ++ x0 :: x1 :: x2 :: x3 :: R)) ++ z :: List.drop (m + 3 + 1) (List.take (m + 2) (P ++ x0 :: x1 :: x2 :: x3 :: R) ++ y :: List.drop (m + 2 + 1) (P ++ x0 :: x1 :: x2 :: x3 :: R)) = P ++ x0 :: x1 :: y :: z :: R := by
  subst hm
  have e1 : List.take (P.length + 2) (P ++ x0 :: x1 :: x2 :: x3 :: R) = P ++ [x0, x1] := by rw [List.take_append, List.take_of_length_le (by omega)]; simp
  have e2 : List.drop (P.length + 2 + 1) (P ++ x0 :: x1 :: x2 :: x3 :: R) = x3 :: R := by rw [List.drop_append, List.drop_of_length_le (by omega)]; simp [show P.length + 2 + 1 - P.length = 3 by omega]
  rw [e1, e2]
  have e3 : P ++ [x0, x1] ++ y :: x3 :: R = P ++ x0 :: x1 :: y :: x3 :: R := by simp
  rw [e3]
  have e4 : List.take (P.length + 3) (P ++ x0 :: x1 :: y :: x3 :: R) = P ++ [x0, x1, y] := by rw [List.take_append, List.take_of_length_le (by omega)]; simp
  have e5 : List.drop (P.length + 3 + 1) (P ++ x0 :: x1 :: y :: x3 :: R) = R := by rw [List.drop_append, List.drop_of_length_le (by omega)]; simp [show P.length + 3 + 1 - P.length = 4 by omega]
  rw [e4, e5]
  simp
theorem vas_put2 (a c : List Syn.Va) (v : Syn.Va) (nm : Bs) (b : Bool) (n : Nat) (hn : n = a.length) :
    List.take (n * 5 + 3) (List.take (n * 5 + 2) (vasCells (a ++ v :: c)) ++ .str nm :: List.drop (n * 5 + 2 + 1) (vasCells (a ++ v :: c))) ++ .bool b :: List.drop (n * 5 + 3 + 1) (List.take (n * 5 + 2) (vasCells (a ++ v :: c)) ++ .str nm :: List.drop (n * 5 + 2 + 1) (vasCells (a ++ v :: c))) = vasCells ((a ++ [setOn nm b v]) ++ c) := by
  have h0 : vasCells (a ++ v :: c) = vasCells a ++ .str v.name :: .int .i64 v.kind :: .str v.on :: .bool v.neg :: (.int .i64 v.pos :: vasCells c) := by
    rw [vasCells_append]; simp [vasCells, vaCells]
  have h1 := put_at (vasCells a) (.int .i64 v.pos :: vasCells c) (.str v.name) (.int .i64 v.kind) (.str v.on) (.bool v.neg) (.str nm) (.bool b) (n * 5) (by rw [vasCells_len, hn])
  rw [h0, h1]
  simp [vasCells_append, vasCells, vaCells, setOn]
set_option maxHeartbeats 8000000 in
set_option maxRecDepth 100000 in
theorem p_local {W : Syn.Ws} (hW : WsOk W) {s : Syn.St} {p : Nat} {H : AHeap} (h : PAt H p W s) (hi : s.i < W.length) : Does Tryz.prog G 270 [.ptr p 0] H (DeclR H p W (Syn.local_ W s)) := by
  refine Does.wf Tryz.call270 fun hw _ => ?_
  have old : ∀ j x, H.get j = some x → j < H.next := fun j x hj => next_lt hw hj
  refine does_f Tryz.call270 Tryz.func270 rfl (by simp [Tryz.f270]) ?_
  have hpl := old _ _ h
  have hsm := hW.small
  simp
  refine does_usew (p_decl hW h hi) ?_
  rintro r H2 ⟨⟨b, opn, hr, hbn, hb⟩, hP2, hkeep⟩ hw2 _
  have hi2 := (kp_decl hW s hi).1
  obtain ⟨hne, hlen0⟩ := decl_ne W s
  rcases hx : Syn.decl W s with ⟨l, s1⟩
  rw [hx] at hr hb hP2 hi2 hne hlen0
  simp only at hr hb hP2 hi2 hne hlen0
  subst hr
  have hpb : p ≠ b := by omega
  have hqb := Ne.symm hpb
  simp
  refine does_use (p_take hW hP2 hi2 [119, 104, 101, 110]) ?_
  rintro _ H3 ⟨rfl, rfl⟩
  by_cases ho : Syn.is W s1 [119, 104, 101, 110] = true
  · have hi3 : s1.i + 1 < W.length := ok_succ hW hi2 (is_kind ho).2
    simp [Syn.take, ho]
    refine does_use (p_take hW (W := W) (s := { s1 with i := s1.i + 1 }) (PAt.set _) hi3 [110, 111, 116]) ?_
    rintro _ H4 ⟨rfl, rfl⟩
    have hi4 := take_ok hW (W := W) (s := { s1 with i := s1.i + 1 }) hi3 [110, 111, 116]
    rcases hy : Syn.take W { s1 with i := s1.i + 1 } [110, 111, 116] with ⟨bn, s2⟩
    rw [hy] at hi4
    simp only at hi4
    simp
    refine does_use (p_name hW (W := W) (s := s2) (PAt.set _) hi4) ?_
    rintro _ H5 ⟨rfl, rfl⟩
    rcases hz : Syn.name W s2 with ⟨nm, s3⟩
    have hloc : Syn.local_ W s = (l.map (setOn nm bn), s3) := by
      simp only [Syn.local_, hx, ho, if_true, hy, hz]
      rfl
    simp
    refine aws_loopw (fun m T' H' => ∃ a c, l = a ++ c ∧ m = c.length ∧ T' 0 = .ptr p 0 ∧ T' 3 = .sl b 0 5 l.length l.length opn ∧ T' 4 = .bool bn ∧ T' 5 = .str nm ∧ T' 18 = .int .i64 l.length ∧ T' 19 = .int .i64 a.length ∧
      H'.get b = some (.cells (vasCells (a.map (setOn nm bn) ++ c))) ∧ H'.get p = some (.cells (stCells W s3)) ∧ (∀ x y, x ≠ p → H.get x = some y → H'.get x = some y)) l.length ⟨[], l, rfl, rfl, by simp, by simp, by simp, by simp, by simp, by simp, by simp [hb, hqb], by simp, fun x y hxp hxy => ?_⟩ ?_
    · simp [hxp, hkeep x y hxp hxy]
    rintro m T H2 ⟨a, c, hac, rfl, t0, t3, t4, t5, t18, t19, hb2, hP3, hkeep2⟩ hw3 _
    have hlen : a.length + c.length = l.length := by rw [hac]; simp
    cases c with
    | nil =>
      have ha : a.length = l.length := by simpa using hlen
      rw [List.append_nil] at hac
      subst hac
      simp [t0, t3, t18, t19]
      rw [hloc]
      refine ⟨⟨b, opn, by simp, hbn, by simpa using hb2⟩, hP3, hkeep2⟩
    | cons v c =>
      simp only [List.length_cons] at hlen
      have hlt : (a.length : Int) < l.length := by omega
      have hlt2 : a.length < l.length := by omega
      have hlt3 : a.length ≤ l.length := by omega
      have hwa : IntKind.i64.wrap ((a.length : Int) + 1) = a.length + 1 := IntWalk.i64_in _ (by omega)
      have hcl : (vasCells (a.map (setOn nm bn) ++ v :: c)).length = l.length * 5 := by rw [vasCells_len]; simp; omega
      have hb3 : a.length * 5 + 2 + 1 ≤ l.length * 5 := by omega
      have hb4 : a.length * 5 + 3 + 1 ≤ l.length * 5 := by omega
      have hb5 : a.length * 5 + 3 + 1 ≤ min (a.length * 5 + 2) (l.length * 5) + (l.length * 5 - (a.length * 5 + 2 + 1) + 1) := by omega
      have hput := vas_put2 (a.map (setOn nm bn)) c v nm bn a.length (by simp)
      simp [t0, t3, t4, t5, t18, t19, hlt, hlt2, hlt3, hb2, hcl, hb3, hb4, hb5, hpb, hqb, hwa]
      refine ⟨c.length, by omega, a ++ [v], c, by rw [hac]; simp, rfl, by simp, by simpa using hput, hP3, fun x y hxp hxy => ?_⟩
      have := old x y hxy
      have k1 : x ≠ b := by omega
      simp [k1, hkeep2 x y hxp hxy]
  · have ho' : Syn.is W s1 [119, 104, 101, 110] = false := by simpa using ho
    have hloc : Syn.local_ W s = (l, s1) := by simp only [Syn.local_, hx, ho', Bool.false_eq_true, if_false]
    simp [Syn.take, ho']
    rw [hloc]
    exact ⟨⟨b, opn, by simp, hbn, by simp [hqb, hb]⟩, by simp, fun x y hxp hxy => by simp [hxp, hkeep x y hxp hxy]⟩
theorem localsL_kp {W : Syn.Ws} (hW : WsOk W) : ∀ (m : Nat) (l : List Syn.Va) (s : Syn.St), Kp W s (Syn.localsL W m l s).2
  | 0, l, s => Kp.refl s
  | m + 1, l, s => by
    unfold Syn.localsL
    split
    · have h2 := kp_local hW s
      rcases hx : Syn.local_ W s with ⟨v, s2⟩
      rw [hx] at h2
      simp only at h2 ⊢
      exact h2.trans ((kp_want1 hW s2 [59]).trans (localsL_kp hW m _ _))
    · exact Kp.refl s
theorem kp_locals {W : Syn.Ws} (hW : WsOk W) (s : Syn.St) : Kp W s (Syn.locals_ W s).2 := by
  unfold Syn.locals_
  have key : ∀ (l : List Syn.Va) (s1 : Syn.St), Kp W s s1 → Kp W s (Syn.localsL W (W.length + 1) l (Syn.want1 W s1 [59])).2 := fun l s1 h => h.trans ((kp_want1 hW s1 [59]).trans (localsL_kp hW _ _ _))
  by_cases hk : Syn.kind W s = 1
  · rw [if_pos hk]
    have h1 := kp_local hW s
    rcases hx : Syn.local_ W s with ⟨l, s1⟩
    rw [hx] at h1
    exact key l s1 h1
  · rw [if_neg hk]
    exact key [] s (Kp.refl s)
end Go.Proofs.YtnhomjhfaoipmaaGreatDoor

namespace Go.Proofs.YtnhomjhfaoipmaaGreatDoor
open Go Go.Abs Go.Lex
set_option linter.unusedSimpArgs false
variable {G : Nat → Option AV}
theorem declared_lt {W : Syn.Ws} {s : Syn.St} (he : s.err = 0) (hk : (Syn.at_ W s).2.kind = 1) (hi : s.i < W.length) : mu W (Syn.declared W s).2 < mu W s := by
  have h0 : mu W s = W.length - s.i := by unfold mu; rw [if_pos he]
  unfold Syn.declared
  simp only [hk, if_true]
  split
  · have : (Syn.fail W 2 { s with names := Syn.wrap (s.names + 1) }).err = 2 := by unfold Syn.fail; simp [he]
    have hk2 : Syn.kind W (Syn.fail W 2 { s with names := Syn.wrap (s.names + 1) }) = 1 := by
      unfold Syn.fail
      simp only [he, if_true]
      exact hk
    unfold Syn.name
    rw [if_pos hk2]
    simp only [this, show (2 : Nat) ≠ 0 by omega, if_false]
    unfold mu
    rw [if_neg (by rw [this]; omega), if_pos he]
    omega
  · have hk2 : Syn.kind W { s with names := Syn.wrap (s.names + 1) } = 1 := hk
    unfold Syn.name
    rw [if_pos hk2]
    simp only [he, if_true]
    unfold mu
    simp only [he, if_true]
    omega
theorem decl_lt {W : Syn.Ws} (hW : WsOk W) {s : Syn.St} (he : s.err = 0) (hk : (Syn.at_ W s).2.kind = 1) (hi : s.i < W.length) : mu W (Syn.decl W s).2 < mu W s := by
  have h0 := declared_lt he hk hi
  have hi1 := (kp_declared hW s hi).1
  unfold Syn.decl
  rcases hx : Syn.declared W s with ⟨v, s1⟩
  rw [hx] at h0 hi1
  simp only at h0 hi1 ⊢
  have h2 := declL_kp hW (W.length + 1) [v] s1
  rcases hy : Syn.declL W (W.length + 1) [v] s1 with ⟨l, s2⟩
  rw [hy] at h2
  simp only at h2 ⊢
  have h3 := kp_want1 hW s2 [58]
  split
  · rename_i ho
    have := (h2.trans (h3.trans (kp_succ hW (is_kind ho).2)) hi1).2
    exact Nat.lt_of_le_of_lt this h0
  split
  · rename_i ho
    have := (h2.trans (h3.trans (kp_succ hW (is_kind ho).2)) hi1).2
    exact Nat.lt_of_le_of_lt this h0
  · have := (h2.trans (h3.trans (kp_fail (e := 7) (by omega) _)) hi1).2
    exact Nat.lt_of_le_of_lt this h0
theorem local_lt {W : Syn.Ws} (hW : WsOk W) {s : Syn.St} (he : s.err = 0) (hk : (Syn.at_ W s).2.kind = 1) (hi : s.i < W.length) : mu W (Syn.local_ W s).2 < mu W s := by
  have h0 := decl_lt hW he hk hi
  have hi1 := (kp_decl hW s hi).1
  unfold Syn.local_
  rcases hx : Syn.decl W s with ⟨l, s1⟩
  rw [hx] at h0 hi1
  simp only at h0 hi1 ⊢
  split
  · rename_i ho
    have h2 := kp_succ hW (is_kind ho).2
    have h3 := kp_take hW { s1 with i := s1.i + 1 } [110, 111, 116]
    rcases hy : Syn.take W { s1 with i := s1.i + 1 } [110, 111, 116] with ⟨b, s2⟩
    rw [hy] at h3
    simp only at h3 ⊢
    have h4 := kp_name hW s2
    rcases hz : Syn.name W s2 with ⟨nm, s3⟩
    rw [hz] at h4
    simp only at h4 ⊢
    exact Nat.lt_of_le_of_lt ((h2.trans (h3.trans h4)) hi1).2 h0
  · exact h0
set_option maxHeartbeats 8000000 in
set_option maxRecDepth 100000 in
theorem p_locals {W : Syn.Ws} (hW : WsOk W) {s : Syn.St} {p : Nat} {H : AHeap} (h : PAt H p W s) (hi : s.i < W.length) : Does Tryz.prog G 220 [.ptr p 0] H (DeclsR H p W (Syn.locals_ W s)) := by
  refine Does.wf Tryz.call220 fun hw _ => ?_
  have old : ∀ j x, H.get j = some x → j < H.next := fun j x hj => next_lt hw hj
  refine does_f Tryz.call220 Tryz.func220 rfl (by simp [Tryz.f220]) ?_
  have hpl := old _ _ h
  have hsm := hW.small
  obtain ⟨K, hK⟩ : ∃ K, K = W.length + 2 := ⟨_, rfl⟩
  have hK2 : K ≤ 20002 := by omega
  have hbig : (W.length + 1) * K ≤ 20002 * 20002 := Nat.mul_le_mul (by omega) hK2
  simp
  refine does_use (p_word h hi) ?_
  rintro _ H1 ⟨rfl, rfl⟩
  by_cases hk : (Syn.at_ W s).2.kind = 1
  · have hk' : ((((Syn.at_ W s).2.kind : Nat) : Int) = 1) = True := eq_true (by omega)
    simp [wdCells, hk']
    refine does_usew (p_local hW h hi) ?_
    rintro r H2 ⟨⟨b0, op0, hr, hb0, hg0⟩, hP2, hk2⟩ hw2 _
    have hi2 := (kp_local hW s hi).1
    obtain ⟨hne, hlen0⟩ := local_ne W s
    have hsp : Syn.locals_ W s = Syn.localsL W (W.length + 1) (Syn.local_ W s).1 (Syn.want1 W (Syn.local_ W s).2 [59]) := by
      have hkk : Syn.kind W s = 1 := hk
      unfold Syn.locals_
      rw [if_pos hkk]
    rcases hx : Syn.local_ W s with ⟨l0, s1⟩
    rw [hx] at hr hg0 hP2 hi2 hne hlen0 hsp
    simp only at hr hg0 hP2 hi2 hne hlen0 hsp
    subst hr
    have hN2 := next_lt hw2 hg0
    have hpN := next_lt hw2 hP2
    have hb0p : b0 ≠ p := by omega
    simp
    have hsp1 : (H2.push (.cells [.str [59]])).get p = some (.cells (stCells W s1)) := by
      have e : p ≠ H2.next := by omega
      simp [e]; exact hP2
    refine does_use (p_want hW (W := W) (s := s1) hsp1 hi2 [[59]] H2.next 1 false (by simp) (by omega) (by simp)) ?_
    rintro _ H3 ⟨rfl, rfl⟩
    have hw1' : Syn.want W s1 [[59]] = Syn.want1 W s1 [59] := rfl
    rw [hw1']
    simp
    have hi3 := want1_ok hW hi2 [59]
    refine aws_loopw (fun m T' H' => ∃ l s', Syn.localsL W m l s' = Syn.localsL W (W.length + 1) l0 (Syn.want1 W s1 [59]) ∧ mu W s' < m ∧ s'.i < W.length ∧ l.length + m * K ≤ K + (W.length + 1) * K ∧
      T' 0 = .ptr p 0 ∧ VsR H1.next H' (T' 3) l ∧ PAt H' p W s' ∧ H1.next ≤ H'.next ∧ (∀ x y, x ≠ p → H1.get x = some y → H'.get x = some y)) (W.length + 1) ?_ ?_
    · refine ⟨l0, _, rfl, ?_, hi3, by omega, by simp, ?_, by unfold PAt; simp, by simp; try omega, fun x y hxp hxy => ?_⟩
      · unfold mu; split <;> omega
      · exact .inr ⟨hne, b0, op0, by simp, hb0, by simp [Nat.ne_of_lt hN2, hb0p, hg0]⟩
      · have := old x y hxy
        have e : x ≠ H2.next := by omega
        simp [hxp, e, hk2 x y hxp hxy]
    rintro m T H4 ⟨l, s', hargs, hmu, hi', hlm, t0, hvs, hP, hnx, hkeep⟩ hw4 _
    obtain ⟨k, rfl⟩ : ∃ k, m = k + 1 := ⟨m - 1, by omega⟩
    have hmulm : (k + 1) * K = k * K + K := Nat.succ_mul k K
    have stop : ¬ (s'.err = 0 ∧ Syn.kind W s' = 1) → DeclsR H1 p W (Syn.locals_ W s) (T 3) H4 := fun hs => by
      have e : Syn.locals_ W s = (l, s') := by rw [hsp, ← hargs, Syn.localsL, if_neg hs]
      rw [e]
      exact ⟨hvs, hP, hkeep⟩
    simp [t0]
    refine does_use (p_ok hP) ?_
    rintro _ _ ⟨rfl, rfl⟩
    by_cases he : s'.err = 0
    · simp [he, t0]
      refine does_use (p_word hP hi') ?_
      rintro _ _ ⟨rfl, rfl⟩
      by_cases hk : (Syn.at_ W s').2.kind = 1
      · have hk' : ((((Syn.at_ W s').2.kind : Nat) : Int) = 1) = True := eq_true (by omega)
        simp [wdCells, hk', t0]
        refine does_usew (p_local hW hP hi') ?_
        rintro r H5 ⟨⟨b2, op2, hr, hb2, hg2⟩, hP5, hk5⟩ hw5 _
        have hi5 := (kp_local hW s' hi').1
        have hm5 := local_lt hW he hk hi'
        obtain ⟨hne2, hlen2⟩ := local_ne W s'
        rcases hy : Syn.local_ W s' with ⟨l2, s4⟩
        rw [hy] at hr hg2 hP5 hi5 hm5 hne2 hlen2
        simp only at hr hg2 hP5 hi5 hm5 hne2 hlen2
        subst hr
        have hN6 := next_lt hw5 hg2
        have hP6 := next_lt hw5 hP5
        have q3 : p ≠ H5.next := by omega
        have q5 : p ≠ H5.next + 1 := by omega
        have q6 : True := trivial
        have q3' := Ne.symm q3
        have q5' := Ne.symm q5
        have hl2 : l2.length ≠ 0 := by simpa using hne2
        have g4 : List.take (l2.length * 5) (vasCells l2) = vasCells l2 := by rw [List.take_of_length_le]; rw [vasCells_len]; omega
        have g6 : (vasCells l2).length = l2.length * 5 := vasCells_len l2
        have g7 := vasCells_scalar l2
        rcases hvs with ⟨rfl, t3⟩ | ⟨hln, b, opn, t3, hbn, hb⟩
        · have g1 : l2.length * 56 ≤ 140737488355328 := by omega
          have g2 : l2.length ≤ 4611686018427387904 := by omega
          simp [t0, t3, hg2, g1, g2, g4, g6, if_pos g7, hl2]
          have hp5 : ((H5.push (.cells (vasCells l2))).push (.cells [.str [59]])).get p = some (.cells (stCells W s4)) := by simp [q3, q5, q6, hP5]
          refine does_use (p_want hW (W := W) (s := s4) hp5 hi5 [[59]] (H5.next + 1) 1 false (by simp) (by omega) (by simp)) ?_
          rintro _ H6 ⟨rfl, rfl⟩
          have hw2' : Syn.want W s4 [[59]] = Syn.want1 W s4 [59] := rfl
          rw [hw2']
          have hi6 := want1_ok hW hi5 [59]
          have hmu6 := want1_mu W s4 [59]
          simp [t0]
          refine ⟨k, by omega, l2, Syn.want1 W s4 [59], by rw [← hargs]; simp [Syn.localsL, he, hk, Syn.kind, hy], by omega, hi6, by simp only [List.length_nil, List.length_append] at hlm ⊢; omega, .inr ⟨by simp [hne2], H5.next, true, by simp, by omega, by simp [q3', vasCells_append]⟩, by unfold PAt; simp, by (try simp); omega, fun x y hxp hxy => ?_⟩
          have := old x y hxy
          have k1 : x ≠ H5.next := by omega
          have k2 : x ≠ H5.next + 1 := by omega
          simp [k1, k2, hxp, hk5 x y hxp (hkeep x y hxp hxy)]
        · have hpb : p ≠ b := by
            intro e
            subst e
            have := hP.symm.trans hb
            have hwl : l.length ≠ 0 := by simpa using hln
            have h2 := congrArg (fun x => match x with | some (AObj.cells cs) => cs.length | _ => 0) this
            simp [stCells, vasCells_len] at h2
            omega
          have hqb := Ne.symm hpb
          have hb5 : H5.get b = some (.cells (vasCells l)) := hk5 b _ hqb hb
          have hN5 := next_lt hw5 hb5
          have q1 : b ≠ H5.next := by omega
          have q2 : b2 ≠ H5.next := by omega
          have hbN := next_lt hw4 hb
          have q4 : b ≠ b2 := by omega
          have q6 : p ≠ b := hpb
          have hgrow : ¬ (l.length + l2.length ≤ l.length) := by omega
          have g1 : (l.length + l2.length) * 56 ≤ 140737488355328 := by omega
          have g2 : l.length + l2.length ≤ 4611686018427387904 := by omega
          have g3 : List.take (l.length * 5) (vasCells l) = vasCells l := by rw [List.take_of_length_le]; rw [vasCells_len]; omega
          have g5 : (vasCells l).length = l.length * 5 := vasCells_len l
          cases opn
          · simp [t0, t3, hb5, hg2, hgrow, g1, g2, g3, g4, g5, g6, if_pos g7, hl2]
            have hp5 : ((H5.push (.cells (vasCells l ++ vasCells l2))).push (.cells [.str [59]])).get p = some (.cells (stCells W s4)) := by simp [q3, q5, q6, hP5]
            refine does_use (p_want hW (W := W) (s := s4) hp5 hi5 [[59]] (H5.next + 1) 1 false (by simp) (by omega) (by simp)) ?_
            rintro _ H6 ⟨rfl, rfl⟩
            have hw2' : Syn.want W s4 [[59]] = Syn.want1 W s4 [59] := rfl
            rw [hw2']
            have hi6 := want1_ok hW hi5 [59]
            have hmu6 := want1_mu W s4 [59]
            simp [t0]
            refine ⟨k, by omega, l ++ l2, Syn.want1 W s4 [59], by rw [← hargs]; simp [Syn.localsL, he, hk, Syn.kind, hy], by omega, hi6, by simp only [List.length_nil, List.length_append] at hlm ⊢; omega, .inr ⟨by simp [hne2], H5.next, true, by simp, by omega, by simp [q3', vasCells_append]⟩, by unfold PAt; simp, by (try simp); omega, fun x y hxp hxy => ?_⟩
            have := old x y hxy
            have k1 : x ≠ H5.next := by omega
            have k2 : x ≠ H5.next + 1 := by omega
            have k3 : x ≠ b := by omega
            simp [k1, k2, hxp, k3, hk5 x y hxp (hkeep x y hxp hxy)]
          · simp [t0, t3, hb5, hg2, hgrow, g1, g2, g3, g4, g5, g6, if_pos g7, hl2]
            have hp5 : (((H5.kill b).push (.cells (vasCells l ++ vasCells l2))).push (.cells [.str [59]])).get p = some (.cells (stCells W s4)) := by simp [q3, q5, q6, hP5]
            refine does_use (p_want hW (W := W) (s := s4) hp5 hi5 [[59]] (H5.next + 1) 1 false (by simp) (by omega) (by simp)) ?_
            rintro _ H6 ⟨rfl, rfl⟩
            have hw2' : Syn.want W s4 [[59]] = Syn.want1 W s4 [59] := rfl
            rw [hw2']
            have hi6 := want1_ok hW hi5 [59]
            have hmu6 := want1_mu W s4 [59]
            simp [t0]
            refine ⟨k, by omega, l ++ l2, Syn.want1 W s4 [59], by rw [← hargs]; simp [Syn.localsL, he, hk, Syn.kind, hy], by omega, hi6, by simp only [List.length_nil, List.length_append] at hlm ⊢; omega, .inr ⟨by simp [hne2], H5.next, true, by simp, by omega, by simp [q3', vasCells_append]⟩, by unfold PAt; simp, by (try simp); omega, fun x y hxp hxy => ?_⟩
            have := old x y hxy
            have k1 : x ≠ H5.next := by omega
            have k2 : x ≠ H5.next + 1 := by omega
            have k3 : x ≠ b := by omega
            simp [k1, k2, hxp, k3, hk5 x y hxp (hkeep x y hxp hxy)]
      · have hk' : ((((Syn.at_ W s').2.kind : Nat) : Int) = 1) = False := eq_false (by omega)
        simp [wdCells, hk', t0]
        exact stop fun h => hk h.2
    · simp [he, t0]
      exact stop fun h => he h.1
  · have hk' : ((((Syn.at_ W s).2.kind : Nat) : Int) = 1) = False := eq_false (by omega)
    simp [wdCells, hk']
    obtain ⟨s1, hs1⟩ : ∃ s1, s1 = s := ⟨_, rfl⟩
    obtain ⟨l0, hl0⟩ : ∃ l0 : List Syn.Va, l0 = [] := ⟨_, rfl⟩
    have hP2 : H1.get p = some (.cells (stCells W s1)) := by rw [hs1]; exact h
    have hi2 : s1.i < W.length := by rw [hs1]; exact hi
    have hk2 : ∀ j y, j ≠ p → H1.get j = some y → H1.get j = some y := fun _ _ _ h => h
    have hlen0 : l0.length ≤ W.length + 2 := by rw [hl0]; simp
    have hsp : Syn.locals_ W s = Syn.localsL W (W.length + 1) l0 (Syn.want1 W s1 [59]) := by
      have hkk : ¬ Syn.kind W s = 1 := hk
      unfold Syn.locals_
      rw [if_neg hkk, hs1, hl0]
    have hw2 := hw
    have hpN := next_lt hw2 hP2
    have hsp1 : (H1.push (.cells [.str [59]])).get p = some (.cells (stCells W s1)) := by
      have e : p ≠ H1.next := by omega
      simp [e]; exact hP2
    refine does_use (p_want hW (W := W) (s := s1) hsp1 hi2 [[59]] H1.next 1 false (by simp) (by omega) (by simp)) ?_
    rintro _ H3 ⟨rfl, rfl⟩
    have hw1' : Syn.want W s1 [[59]] = Syn.want1 W s1 [59] := rfl
    rw [hw1']
    simp
    have hi3 := want1_ok hW hi2 [59]
    refine aws_loopw (fun m T' H' => ∃ l s', Syn.localsL W m l s' = Syn.localsL W (W.length + 1) l0 (Syn.want1 W s1 [59]) ∧ mu W s' < m ∧ s'.i < W.length ∧ l.length + m * K ≤ K + (W.length + 1) * K ∧
      T' 0 = .ptr p 0 ∧ VsR H1.next H' (T' 3) l ∧ PAt H' p W s' ∧ H1.next ≤ H'.next ∧ (∀ x y, x ≠ p → H1.get x = some y → H'.get x = some y)) (W.length + 1) ?_ ?_
    · refine ⟨l0, _, rfl, ?_, hi3, by omega, by simp, ?_, by unfold PAt; simp, by simp; try omega, fun x y hxp hxy => ?_⟩
      · unfold mu; split <;> omega
      · exact .inl ⟨hl0, by simp⟩
      · have := old x y hxy
        have e : x ≠ H1.next := by omega
        simp [hxp, e, hk2 x y hxp hxy]
    rintro m T H4 ⟨l, s', hargs, hmu, hi', hlm, t0, hvs, hP, hnx, hkeep⟩ hw4 _
    obtain ⟨k, rfl⟩ : ∃ k, m = k + 1 := ⟨m - 1, by omega⟩
    have hmulm : (k + 1) * K = k * K + K := Nat.succ_mul k K
    have stop : ¬ (s'.err = 0 ∧ Syn.kind W s' = 1) → DeclsR H1 p W (Syn.locals_ W s) (T 3) H4 := fun hs => by
      have e : Syn.locals_ W s = (l, s') := by rw [hsp, ← hargs, Syn.localsL, if_neg hs]
      rw [e]
      exact ⟨hvs, hP, hkeep⟩
    simp [t0]
    refine does_use (p_ok hP) ?_
    rintro _ _ ⟨rfl, rfl⟩
    by_cases he : s'.err = 0
    · simp [he, t0]
      refine does_use (p_word hP hi') ?_
      rintro _ _ ⟨rfl, rfl⟩
      by_cases hk : (Syn.at_ W s').2.kind = 1
      · have hk' : ((((Syn.at_ W s').2.kind : Nat) : Int) = 1) = True := eq_true (by omega)
        simp [wdCells, hk', t0]
        refine does_usew (p_local hW hP hi') ?_
        rintro r H5 ⟨⟨b2, op2, hr, hb2, hg2⟩, hP5, hk5⟩ hw5 _
        have hi5 := (kp_local hW s' hi').1
        have hm5 := local_lt hW he hk hi'
        obtain ⟨hne2, hlen2⟩ := local_ne W s'
        rcases hy : Syn.local_ W s' with ⟨l2, s4⟩
        rw [hy] at hr hg2 hP5 hi5 hm5 hne2 hlen2
        simp only at hr hg2 hP5 hi5 hm5 hne2 hlen2
        subst hr
        have hN6 := next_lt hw5 hg2
        have hP6 := next_lt hw5 hP5
        have q3 : p ≠ H5.next := by omega
        have q5 : p ≠ H5.next + 1 := by omega
        have q6 : True := trivial
        have q3' := Ne.symm q3
        have q5' := Ne.symm q5
        have hl2 : l2.length ≠ 0 := by simpa using hne2
        have g4 : List.take (l2.length * 5) (vasCells l2) = vasCells l2 := by rw [List.take_of_length_le]; rw [vasCells_len]; omega
        have g6 : (vasCells l2).length = l2.length * 5 := vasCells_len l2
        have g7 := vasCells_scalar l2
        rcases hvs with ⟨rfl, t3⟩ | ⟨hln, b, opn, t3, hbn, hb⟩
        · have g1 : l2.length * 56 ≤ 140737488355328 := by omega
          have g2 : l2.length ≤ 4611686018427387904 := by omega
          simp [t0, t3, hg2, g1, g2, g4, g6, if_pos g7, hl2]
          have hp5 : ((H5.push (.cells (vasCells l2))).push (.cells [.str [59]])).get p = some (.cells (stCells W s4)) := by simp [q3, q5, q6, hP5]
          refine does_use (p_want hW (W := W) (s := s4) hp5 hi5 [[59]] (H5.next + 1) 1 false (by simp) (by omega) (by simp)) ?_
          rintro _ H6 ⟨rfl, rfl⟩
          have hw2' : Syn.want W s4 [[59]] = Syn.want1 W s4 [59] := rfl
          rw [hw2']
          have hi6 := want1_ok hW hi5 [59]
          have hmu6 := want1_mu W s4 [59]
          simp [t0]
          refine ⟨k, by omega, l2, Syn.want1 W s4 [59], by rw [← hargs]; simp [Syn.localsL, he, hk, Syn.kind, hy], by omega, hi6, by simp only [List.length_nil, List.length_append] at hlm ⊢; omega, .inr ⟨by simp [hne2], H5.next, true, by simp, by omega, by simp [q3', vasCells_append]⟩, by unfold PAt; simp, by (try simp); omega, fun x y hxp hxy => ?_⟩
          have := old x y hxy
          have k1 : x ≠ H5.next := by omega
          have k2 : x ≠ H5.next + 1 := by omega
          simp [k1, k2, hxp, hk5 x y hxp (hkeep x y hxp hxy)]
        · have hpb : p ≠ b := by
            intro e
            subst e
            have := hP.symm.trans hb
            have hwl : l.length ≠ 0 := by simpa using hln
            have h2 := congrArg (fun x => match x with | some (AObj.cells cs) => cs.length | _ => 0) this
            simp [stCells, vasCells_len] at h2
            omega
          have hqb := Ne.symm hpb
          have hb5 : H5.get b = some (.cells (vasCells l)) := hk5 b _ hqb hb
          have hN5 := next_lt hw5 hb5
          have q1 : b ≠ H5.next := by omega
          have q2 : b2 ≠ H5.next := by omega
          have hbN := next_lt hw4 hb
          have q4 : b ≠ b2 := by omega
          have q6 : p ≠ b := hpb
          have hgrow : ¬ (l.length + l2.length ≤ l.length) := by omega
          have g1 : (l.length + l2.length) * 56 ≤ 140737488355328 := by omega
          have g2 : l.length + l2.length ≤ 4611686018427387904 := by omega
          have g3 : List.take (l.length * 5) (vasCells l) = vasCells l := by rw [List.take_of_length_le]; rw [vasCells_len]; omega
          have g5 : (vasCells l).length = l.length * 5 := vasCells_len l
          cases opn
          · simp [t0, t3, hb5, hg2, hgrow, g1, g2, g3, g4, g5, g6, if_pos g7, hl2]
            have hp5 : ((H5.push (.cells (vasCells l ++ vasCells l2))).push (.cells [.str [59]])).get p = some (.cells (stCells W s4)) := by simp [q3, q5, q6, hP5]
            refine does_use (p_want hW (W := W) (s := s4) hp5 hi5 [[59]] (H5.next + 1) 1 false (by simp) (by omega) (by simp)) ?_
            rintro _ H6 ⟨rfl, rfl⟩
            have hw2' : Syn.want W s4 [[59]] = Syn.want1 W s4 [59] := rfl
            rw [hw2']
            have hi6 := want1_ok hW hi5 [59]
            have hmu6 := want1_mu W s4 [59]
            simp [t0]
            refine ⟨k, by omega, l ++ l2, Syn.want1 W s4 [59], by rw [← hargs]; simp [Syn.localsL, he, hk, Syn.kind, hy], by omega, hi6, by simp only [List.length_nil, List.length_append] at hlm ⊢; omega, .inr ⟨by simp [hne2], H5.next, true, by simp, by omega, by simp [q3', vasCells_append]⟩, by unfold PAt; simp, by (try simp); omega, fun x y hxp hxy => ?_⟩
            have := old x y hxy
            have k1 : x ≠ H5.next := by omega
            have k2 : x ≠ H5.next + 1 := by omega
            have k3 : x ≠ b := by omega
            simp [k1, k2, hxp, k3, hk5 x y hxp (hkeep x y hxp hxy)]
          · simp [t0, t3, hb5, hg2, hgrow, g1, g2, g3, g4, g5, g6, if_pos g7, hl2]
            have hp5 : (((H5.kill b).push (.cells (vasCells l ++ vasCells l2))).push (.cells [.str [59]])).get p = some (.cells (stCells W s4)) := by simp [q3, q5, q6, hP5]
            refine does_use (p_want hW (W := W) (s := s4) hp5 hi5 [[59]] (H5.next + 1) 1 false (by simp) (by omega) (by simp)) ?_
            rintro _ H6 ⟨rfl, rfl⟩
            have hw2' : Syn.want W s4 [[59]] = Syn.want1 W s4 [59] := rfl
            rw [hw2']
            have hi6 := want1_ok hW hi5 [59]
            have hmu6 := want1_mu W s4 [59]
            simp [t0]
            refine ⟨k, by omega, l ++ l2, Syn.want1 W s4 [59], by rw [← hargs]; simp [Syn.localsL, he, hk, Syn.kind, hy], by omega, hi6, by simp only [List.length_nil, List.length_append] at hlm ⊢; omega, .inr ⟨by simp [hne2], H5.next, true, by simp, by omega, by simp [q3', vasCells_append]⟩, by unfold PAt; simp, by (try simp); omega, fun x y hxp hxy => ?_⟩
            have := old x y hxy
            have k1 : x ≠ H5.next := by omega
            have k2 : x ≠ H5.next + 1 := by omega
            have k3 : x ≠ b := by omega
            simp [k1, k2, hxp, k3, hk5 x y hxp (hkeep x y hxp hxy)]
      · have hk' : ((((Syn.at_ W s').2.kind : Nat) : Int) = 1) = False := eq_false (by omega)
        simp [wdCells, hk', t0]
        exact stop fun h => hk h.2
    · simp [he, t0]
      exact stop fun h => he h.1
end Go.Proofs.YtnhomjhfaoipmaaGreatDoor

namespace Go.Proofs.YtnhomjhfaoipmaaGreatDoor
open Go Go.Abs Go.Lex
set_option linter.unusedSimpArgs false
variable {G : Nat → Option AV}
theorem p_locals' {W : Syn.Ws} (hW : WsOk W) {s : Syn.St} {p : Nat} {H : AHeap} (h : PAt H p W s) (hi : s.i < W.length) : Does Tryz.prog G 220 [.ptr p 0] H fun r H' => r = vsV (Syn.locals_ W s).1 ∧ H' = H.set p (.cells (stCells W (Syn.locals_ W s).2)) := by
  refine Does.deep (p_locals hW h hi) ?_
  rintro hw ha r H1 ⟨h1, h2, h3⟩
  exact ⟨_, H.set p (.cells (stCells W (Syn.locals_ W s).2)), h1.res, rfl, set_back hw h h2 h3, rfl, rfl⟩
def eqCells (q : Syn.Eqn) : List AV := .str q.name :: (exCells q.e ++ [.int .i64 q.pos])
def eqsCells : List Syn.Eqn → List AV
  | [] => []
  | q :: l => eqCells q ++ eqsCells l
theorem eqCells_len (q : Syn.Eqn) : (eqCells q).length = 7 := by simp [eqCells, exCells_len]
theorem eqsCells_len : ∀ l : List Syn.Eqn, (eqsCells l).length = l.length * 7
  | [] => rfl
  | q :: l => by rw [eqsCells, List.length_append, eqsCells_len l, eqCells_len]; simp; omega
theorem eqsCells_append : ∀ a b : List Syn.Eqn, eqsCells (a ++ b) = eqsCells a ++ eqsCells b
  | [], b => rfl
  | q :: a, b => by rw [List.cons_append, eqsCells, eqsCells, eqsCells_append a b, List.append_assoc]
theorem eqsCells_lt (n : Nat) : ∀ l : List Syn.Eqn, AV.allLt n (eqsCells l) = true
  | [] => rfl
  | q :: l => by
    rw [eqsCells, allLt_app, eqsCells_lt n l]
    simp [eqCells, AV.allLt, AV.idLt, allLt_app, exCells_lt]
def eqsV (l : List Syn.Eqn) : AV := if l.isEmpty then .nilsl else .vsl (eqsCells l) l.length
def EqsR (n : Nat) (H' : AHeap) (r : AV) (l : List Syn.Eqn) : Prop := (l = [] ∧ r = .nilsl) ∨ l ≠ [] ∧ ∃ b op, r = .sl b 0 7 l.length l.length op ∧ n ≤ b ∧ H'.get b = some (.cells (eqsCells l))
theorem EqsR.res {n : Nat} {H' : AHeap} {r : AV} {l : List Syn.Eqn} (h : EqsR n H' r l) : ResV H'.get n r (eqsV l) := by
  rcases h with ⟨rfl, rfl⟩ | ⟨hl, b, op, rfl, hb, hg⟩
  · exact .old rfl
  · have : eqsV l = .vsl (eqsCells l) l.length := by unfold eqsV; rw [if_neg (by simpa using hl)]
    rw [this]
    refine .sl hb hg ?_
    rw [List.drop_zero, List.take_of_length_le (by rw [eqsCells_len]; omega)]
    exact ResL.old (eqsCells_lt _ _)
def ndCells (n : Syn.Nd) : List AV := [.str n.name, vsV n.ins, vsV n.outs, vsV n.locals, eqsV n.eqs, .int .i64 n.pos]
def EqsB (n m : Nat) (H' : AHeap) (r : AV) (l : List Syn.Eqn) : Prop := (l = [] ∧ r = .nilsl) ∨ l ≠ [] ∧ ∃ b op, r = .sl b 0 7 l.length l.length op ∧ n ≤ b ∧ b < m ∧ H'.get b = some (.cells (eqsCells l))
theorem EqsB.to {n m : Nat} {H' H2 : AHeap} {r : AV} {l : List Syn.Eqn} (h : EqsB n m H' r l) (hk : ∀ b, n ≤ b → b < m → H2.get b = H'.get b) : EqsB n m H2 r l := by
  rcases h with h | ⟨hl, b, op, h1, h2, h3, h4⟩
  · exact .inl h
  · exact .inr ⟨hl, b, op, h1, h2, h3, by rw [hk b h2 h3]; exact h4⟩
theorem name_lt {W : Syn.Ws} {s : Syn.St} (he : s.err = 0) (hk : (Syn.at_ W s).2.kind = 1) (hi : s.i < W.length) : mu W (Syn.name W s).2 < mu W s := by
  have hk2 : Syn.kind W s = 1 := hk
  unfold Syn.name
  rw [if_pos hk2]
  simp only [he, if_true]
  unfold mu
  simp only [he, if_true]
  omega
theorem kp_want {W : Syn.Ws} (hW : WsOk W) : ∀ (ts : List Bs) (s : Syn.St), Kp W s (Syn.want W s ts)
  | [], s => Kp.refl s
  | t :: ts, s => (kp_want1 hW s t).trans (kp_want hW ts _)
def z6 : List AV := [.str [], .nilsl, .nilsl, .nilsl, .nilsl, .int .i64 0]
structure NI (W : Syn.Ws) (H : AHeap) (p : Nat) (H1 : AHeap) (s : Syn.St) (c : List AV) : Prop where
  P : H1.get p = some (.cells (stCells W s))
  g : H1.get (H.next + 1) = some (.cells c)
  z : H1.get H.next = some (.cells z6)
  l : p < H.next
  n : H.next + 1 < H1.next
  k : ∀ x y, x < H.next → x ≠ p → H.get x = some y → H1.get x = some y
section
variable {W : Syn.Ws} {H H1 : AHeap} {p : Nat} {s : Syn.St} {c : List AV}
theorem NI.push (h : NI W H p H1 s c) (x : AObj) : NI W H p (H1.push x) s c := by
  have hp := h.l
  have hn := h.n
  have e1 : p ≠ H1.next := by omega
  have e2 : H.next + 1 ≠ H1.next := by omega
  have e3 : H.next ≠ H1.next := by omega
  refine ⟨by simp [e1, h.P], by simp [e2, h.g], by simp [e3, h.z], hp, by simp; omega, fun j y j1 j2 j3 => ?_⟩
  have e4 : j ≠ H1.next := by omega
  simp [e4, h.k j y j1 j2 j3]
theorem NI.setp (h : NI W H p H1 s c) (s' : Syn.St) : NI W H p (H1.set p (.cells (stCells W s'))) s' c := by
  have hp := h.l
  have hn := h.n
  have e2 : H.next + 1 ≠ p := by omega
  have e3 : H.next ≠ p := by omega
  exact ⟨by simp, by simp [e2, h.g], by simp [e3, h.z], hp, by simpa using hn, fun j y j1 j2 j3 => by simp [j2, h.k j y j1 j2 j3]⟩
theorem NI.setn (h : NI W H p H1 s c) (c' : List AV) : NI W H p (H1.set (H.next + 1) (.cells c')) s c' := by
  have hp := h.l
  have hn := h.n
  have e1 : p ≠ H.next + 1 := by omega
  refine ⟨by simp [e1, h.P], by simp, by simp [h.z], hp, by simpa using hn, fun j y j1 j2 j3 => ?_⟩
  have e4 : j ≠ H.next + 1 := by omega
  simp [e4, h.k j y j1 j2 j3]
theorem NI.sete (h : NI W H p H1 s c) (b : Nat) (x : AObj) (hb : H.next + 1 < b) : NI W H p (H1.set b x) s c := by
  have hp := h.l
  have e1 : p ≠ b := by omega
  have e2 : H.next + 1 ≠ b := by omega
  have e3 : H.next ≠ b := by omega
  refine ⟨by simp [e1, h.P], by simp [e2, h.g], by simp [e3, h.z], hp, by simpa using h.n, fun j y j1 j2 j3 => ?_⟩
  have e4 : j ≠ b := by omega
  simp [e4, h.k j y j1 j2 j3]
theorem NI.kill (h : NI W H p H1 s c) (b : Nat) (hb : H.next + 1 < b) : NI W H p (H1.kill b) s c := by
  have hp := h.l
  have e1 : p ≠ b := by omega
  have e2 : H.next + 1 ≠ b := by omega
  have e3 : H.next ≠ b := by omega
  refine ⟨by simp [e1, h.P], by simp [e2, h.g], by simp [e3, h.z], hp, by simpa using h.n, fun j y j1 j2 j3 => ?_⟩
  have e4 : j ≠ b := by omega
  simp [e4, h.k j y j1 j2 j3]
theorem NI.np (h : NI W H p H1 s c) : H1.next ≠ p := by have := h.l; have := h.n; omega
theorem NI.nn (h : NI W H p H1 s c) : H.next + 1 ≠ H1.next := by have := h.n; omega
theorem NI.p1 (h : NI W H p H1 s c) : p ≠ H.next + 1 := by have := h.l; omega
end
set_option maxHeartbeats 16000000 in
set_option maxRecDepth 100000 in
theorem p_node {W : Syn.Ws} (hW : WsOk W) {s : Syn.St} {p : Nat} {H : AHeap} (h : PAt H p W s) (hi : s.i < W.length) : Does Tryz.prog G 152 [.ptr p 0] H fun r H' => ∃ E, r = .agg [.str (Syn.node W s).1.name, vsV (Syn.node W s).1.ins, vsV (Syn.node W s).1.outs, vsV (Syn.node W s).1.locals, E, .int .i64 (Syn.node W s).1.pos] ∧ EqsR H.next H' E (Syn.node W s).1.eqs ∧
    H'.get p = some (.cells (stCells W (Syn.node W s).2)) ∧ ∀ j y, j ≠ p → H.get j = some y → H'.get j = some y := by
  refine Does.wf Tryz.call152 fun hw _ => ?_
  have old : ∀ j x, H.get j = some x → j < H.next := fun j x hj => next_lt hw hj
  refine does_f Tryz.call152 Tryz.func152 rfl (by simp [Tryz.f152]) ?_
  have hpl := old _ _ h
  have hsm := hW.small
  have hp1 : p ≠ H.next := by omega
  have hp2 : p ≠ H.next + 1 := by omega
  have h' := h
  unfold PAt at h'
  simp
  refine does_use (p_word (W := W) (s := s) (by unfold PAt; simp [hp1, h']) hi) ?_
  rintro _ _ ⟨rfl, rfl⟩
  obtain ⟨s0, hs0⟩ : ∃ s0 : Syn.St, s0 = { s with names := 0 } := ⟨_, rfl⟩
  have hi0 : s0.i < W.length := by rw [hs0]; exact hi
  have st0 : stCells W s0 = [.vsl (flatW W) W.length, .int .i64 s.i, .int .i64 0, .int .i64 s.parts, .int .i64 s.err, .int .i64 s.pos] := by rw [hs0]; rfl
  unfold stCells at h'
  simp [wdCells, h', hp1, hp2]
  rw [← st0]
  have b0 : NI W H p ((H.push (.cells z6)).push (.cells z6)) s z6 := by
    have e1 : H.next ≠ H.next + 1 := by omega
    refine ⟨by simp [hp1, hp2]; exact h, by simp, by simp [e1], hpl, by simp, fun x y j1 j2 j3 => ?_⟩
    have e2 : x ≠ H.next := by omega
    have e3 : x ≠ H.next + 1 := by omega
    simp [e2, e3, j3]
  obtain ⟨pos, hpos⟩ : ∃ pos, pos = (Syn.at_ W s).1 := ⟨_, rfl⟩
  rw [← hpos]
  have i0 := (b0.setn [.str [], .nilsl, .nilsl, .nilsl, .nilsl, .int .i64 pos]).setp s0
  generalize hH0 : ((((H.push (.cells z6)).push (.cells z6)).set (H.next + 1) (.cells [.str [], .nilsl, .nilsl, .nilsl, .nilsl, .int .i64 pos])).set p (.cells (stCells W s0))) = H0 at i0
  unfold z6 at hH0
  rw [hH0]
  have n0 : H.next + 1 + 1 = H0.next := by rw [← hH0]; rfl
  rw [n0]
  clear hH0 n0
  refine does_use (p_want hW (W := W) (s := s0) (i0.push _).P hi0 [[110, 111, 100, 101]] _ 1 false (by simp) i0.np (by simp)) ?_
  rintro _ H1 ⟨rfl, hH1⟩
  obtain ⟨s1, hs1⟩ : ∃ x, x = Syn.want1 W s0 [110, 111, 100, 101] := ⟨_, rfl⟩
  have hi1 : s1.i < W.length := by rw [hs1]; exact want1_ok hW hi0 _
  have i1 : NI W H p H1 s1 [.str [], .nilsl, .nilsl, .nilsl, .nilsl, .int .i64 pos] := by
    rw [hH1, hs1]; exact (i0.push _).setp _
  clear hH1
  simp
  refine does_use (p_name hW i1.P hi1) ?_
  rintro _ H2 ⟨rfl, hH2⟩
  have hi2 := (kp_name hW s1 hi1).1
  rcases hx2 : Syn.name W s1 with ⟨nm, s2⟩
  rw [hx2] at hH2 hi2
  simp only at hH2 hi2
  have i2 : NI W H p H2 s2 [.str [], .nilsl, .nilsl, .nilsl, .nilsl, .int .i64 pos] := by
    rw [hH2]; exact i1.setp _
  clear hH2
  simp [i2.g]
  have j2 := i2.setn [.str nm, .nilsl, .nilsl, .nilsl, .nilsl, .int .i64 pos]
  refine does_use (p_want hW (W := W) (s := s2) (j2.push _).P hi2 [[40]] _ 1 false (by simp) j2.np (by simp)) ?_
  rintro _ H3 ⟨rfl, hH3⟩
  obtain ⟨s3, hs3⟩ : ∃ x, x = Syn.want1 W s2 [40] := ⟨_, rfl⟩
  have hi3 : s3.i < W.length := by rw [hs3]; exact want1_ok hW hi2 _
  have i3 : NI W H p H3 s3 [.str nm, .nilsl, .nilsl, .nilsl, .nilsl, .int .i64 pos] := by
    rw [hH3, hs3]; exact (j2.push _).setp _
  clear hH3
  simp
  refine does_use (p_decls' hW i3.P hi3) ?_
  rintro _ H4 ⟨rfl, hH4⟩
  have hi4 := (kp_decls hW s3 hi3).1
  rcases hx4 : Syn.decls W s3 with ⟨ins, s4⟩
  rw [hx4] at hH4 hi4
  simp only at hH4 hi4
  have i4 : NI W H p H4 s4 [.str nm, .nilsl, .nilsl, .nilsl, .nilsl, .int .i64 pos] := by
    rw [hH4]; exact i3.setp _
  clear hH4
  simp [i4.g]
  have j4 := i4.setn [.str nm, vsV ins, .nilsl, .nilsl, .nilsl, .int .i64 pos]
  refine does_use (p_want hW (W := W) (s := s4) (j4.push _).P hi4 [[41], [114, 101, 116, 117, 114, 110, 115], [40]] _ 3 false (by simp) j4.np (by simp)) ?_
  rintro _ H5 ⟨rfl, hH5⟩
  obtain ⟨s5, hs5⟩ : ∃ x, x = Syn.want W s4 [[41], [114, 101, 116, 117, 114, 110, 115], [40]] := ⟨_, rfl⟩
  have hi5 : s5.i < W.length := by rw [hs5]; exact want_ok hW _ hi4
  have i5 : NI W H p H5 s5 [.str nm, vsV ins, .nilsl, .nilsl, .nilsl, .int .i64 pos] := by
    rw [hH5, hs5]; exact (j4.push _).setp _
  clear hH5
  simp
  refine does_use (p_decls' hW i5.P hi5) ?_
  rintro _ H6 ⟨rfl, hH6⟩
  have hi6 := (kp_decls hW s5 hi5).1
  rcases hx6 : Syn.decls W s5 with ⟨outs, s6⟩
  rw [hx6] at hH6 hi6
  simp only at hH6 hi6
  have i6 : NI W H p H6 s6 [.str nm, vsV ins, .nilsl, .nilsl, .nilsl, .int .i64 pos] := by
    rw [hH6]; exact i5.setp _
  clear hH6
  simp [i6.g]
  have j6 := i6.setn [.str nm, vsV ins, vsV outs, .nilsl, .nilsl, .int .i64 pos]
  refine does_use (p_want hW (W := W) (s := s6) (j6.push _).P hi6 [[41], [59]] _ 2 false (by simp) j6.np (by simp)) ?_
  rintro _ H7 ⟨rfl, hH7⟩
  obtain ⟨s7, hs7⟩ : ∃ x, x = Syn.want W s6 [[41], [59]] := ⟨_, rfl⟩
  have hi7 : s7.i < W.length := by rw [hs7]; exact want_ok hW _ hi6
  have i7 : NI W H p H7 s7 [.str nm, vsV ins, vsV outs, .nilsl, .nilsl, .int .i64 pos] := by
    rw [hH7, hs7]; exact (j6.push _).setp _
  clear hH7
  simp
  refine does_use (p_take hW i7.P hi7 [118, 97, 114]) ?_
  rintro _ H8 ⟨rfl, hH8⟩
  have hi8 := take_ok hW hi7 [118, 97, 114]
  rcases hx8 : Syn.take W s7 [118, 97, 114] with ⟨bv, s8⟩
  rw [hx8] at hH8 hi8
  simp only at hH8 hi8
  have i8 : NI W H p H8 s8 [.str nm, vsV ins, vsV outs, .nilsl, .nilsl, .int .i64 pos] := by
    rw [hH8]; exact i7.setp _
  clear hH8
  cases bv
  · simp
    obtain ⟨locs, hlocs⟩ : ∃ l : List Syn.Va, l = [] := ⟨_, rfl⟩
    have i9 : NI W H p H8 s8 [.str nm, vsV ins, vsV outs, vsV locs, .nilsl, .int .i64 pos] := by
      rw [hlocs]; exact i8
    have hi9 := hi8
    obtain ⟨s9, hs9⟩ : ∃ x, x = s8 := ⟨_, rfl⟩
    rw [← hs9] at i9 hi9
    refine does_use (p_want hW (W := W) (s := s9) (i9.push _).P hi9 [[108, 101, 116]] _ 1 false (by simp) i9.np (by simp)) ?_
    rintro _ HA ⟨rfl, hHA⟩
    obtain ⟨sA, hsA⟩ : ∃ x, x = Syn.want1 W s9 [108, 101, 116] := ⟨_, rfl⟩
    have hiA : sA.i < W.length := by rw [hsA]; exact want1_ok hW hi9 _
    have iA : NI W H p HA sA [.str nm, vsV ins, vsV outs, vsV locs, .nilsl, .int .i64 pos] := by
      rw [hHA, hsA]; exact (i9.push _).setp _
    clear hHA
    simp
    refine aws_loopw (fun m T' H' => ∃ l s' E, Syn.eqsL W m l s' = Syn.eqsL W (W.length + 1) [] sA ∧ mu W s' < m ∧ s'.i < W.length ∧ l.length + m ≤ W.length + 1 ∧
      T' 0 = .ptr p 0 ∧ T' 2 = .ptr H.next 0 ∧ T' 3 = .ptr (H.next + 1) 0 ∧ NI W H p H' s' [.str nm, vsV ins, vsV outs, vsV locs, E, .int .i64 pos] ∧ EqsR (H.next + 2) H' E l) (W.length + 1)
      ⟨[], sA, .nilsl, rfl, by unfold mu; split <;> omega, hiA, by simp, by simp, by simp, by simp, iA, .inl ⟨rfl, rfl⟩⟩ ?_
    rintro m T H1 ⟨l, s', E, hargs, hmu, hi', hlm, t0, t2, t3, iI, hE0⟩ hw1 _
    have hE : EqsB (H.next + 2) H1.next H1 E l := by
      rcases hE0 with h | ⟨hln, b, opn, h1, h2, h3⟩
      · exact .inl h
      · exact .inr ⟨hln, b, opn, h1, h2, next_lt hw1 h3, h3⟩
    obtain ⟨k, rfl⟩ : ∃ k, m = k + 1 := ⟨m - 1, by omega⟩
    simp [t0]
    refine does_use (p_ok iI.P) ?_
    rintro _ HX ⟨rfl, hHX⟩
    rw [hHX]
    clear hHX HX
    by_cases he : s'.err = 0
    rotate_left
    · have hend : Syn.eqsL W (k + 1) l s' = (l, s') := by rw [Syn.eqsL, if_neg (fun h => he h.1)]
      rw [hend] at hargs
      simp [he, t0, t2, t3]
      refine does_use (p_want hW (W := W) (s := s') (iI.push _).P hi' [[116, 101, 108]] _ 1 false (by simp) iI.np (by simp)) ?_
      rintro _ HY ⟨rfl, hHY⟩
      obtain ⟨sY, hsY⟩ : ∃ x, x = Syn.want1 W s' [116, 101, 108] := ⟨_, rfl⟩
      have hiY : sY.i < W.length := by rw [hsY]; exact want1_ok hW hi' _
      have iY : NI W H p HY sY [.str nm, vsV ins, vsV outs, vsV locs, E, .int .i64 pos] := by
        rw [hHY, hsY]; exact (iI.push _).setp _
      have hEY : EqsB (H.next + 2) H1.next HY E l := hE.to fun b b1 b2 => by
        have e : b ≠ p := by have := iI.l; omega
        have e3 : b ≠ H1.next := by omega
        rw [hHY]; simp [e, e3]
      clear hHY
      simp [t0]
      refine does_use (p_take hW iY.P hiY [59]) ?_
      rintro _ HZ ⟨rfl, hHZ⟩
      rcases hxZ : Syn.take W sY [59] with ⟨bz, sZ⟩
      rw [hxZ] at hHZ
      simp only at hHZ
      have iZ : NI W H p HZ sZ [.str nm, vsV ins, vsV outs, vsV locs, E, .int .i64 pos] := by
        rw [hHZ]; exact iY.setp _
      have hEZ : EqsB (H.next + 2) H1.next HZ E l := hEY.to fun b b1 b2 => by
        have e : b ≠ p := by have := iI.l; omega
        rw [hHZ]; simp [e]
      clear hHZ
      have iZz := iZ.z
      unfold z6 at iZz
      have hnode : Syn.node W s = (⟨nm, ins, outs, locs, l, pos⟩, sZ) := by
        simp only [Syn.node, ← hs0, ← hs1, hx2, ← hs3, hx4, ← hs5, hx6, ← hs7, hx8, Bool.false_eq_true, if_false, ← hs9, ← hlocs, ← hsA, ← hargs, ← hsY, hxZ, ← hpos]
        try rfl
      rw [hnode]
      have hEsc : E.scalar = true ∧ E.cells = [E] := by
        rcases hE with ⟨_, rfl⟩ | ⟨_, b, opn, rfl, _⟩ <;> exact ⟨rfl, rfl⟩
      simp [t2, t3, iZ.g, iZz, hEsc.1, hEsc.2]
      refine ⟨?_, by simp [hp1, iZ.P], fun j y j1 j2 => ?_⟩
      · rcases hEZ with h | ⟨hln, b, opn, h1, h2, _, h3⟩
        · exact .inl h
        · have e : b ≠ H.next := by omega
          exact .inr ⟨hln, b, opn, h1, by omega, by simp [e, h3]⟩
      · have := old j y j2
        have e : j ≠ H.next := by omega
        simp [e, iZ.k j y this j1 j2]
    simp [he, t0]
    refine does_use (p_word iI.P hi') ?_
    rintro _ HX ⟨rfl, hHX⟩
    rw [hHX]
    clear hHX HX
    by_cases hk : (Syn.at_ W s').2.kind = 1
    rotate_left
    · have hend : Syn.eqsL W (k + 1) l s' = (l, s') := by rw [Syn.eqsL, if_neg (fun h => hk h.2)]
      have hk' : ((((Syn.at_ W s').2.kind : Nat) : Int) = 1) = False := eq_false (by omega)
      rw [hend] at hargs
      simp [wdCells, hk', t0, t2, t3]
      refine does_use (p_want hW (W := W) (s := s') (iI.push _).P hi' [[116, 101, 108]] _ 1 false (by simp) iI.np (by simp)) ?_
      rintro _ HY ⟨rfl, hHY⟩
      obtain ⟨sY, hsY⟩ : ∃ x, x = Syn.want1 W s' [116, 101, 108] := ⟨_, rfl⟩
      have hiY : sY.i < W.length := by rw [hsY]; exact want1_ok hW hi' _
      have iY : NI W H p HY sY [.str nm, vsV ins, vsV outs, vsV locs, E, .int .i64 pos] := by
        rw [hHY, hsY]; exact (iI.push _).setp _
      have hEY : EqsB (H.next + 2) H1.next HY E l := hE.to fun b b1 b2 => by
        have e : b ≠ p := by have := iI.l; omega
        have e3 : b ≠ H1.next := by omega
        rw [hHY]; simp [e, e3]
      clear hHY
      simp [t0]
      refine does_use (p_take hW iY.P hiY [59]) ?_
      rintro _ HZ ⟨rfl, hHZ⟩
      rcases hxZ : Syn.take W sY [59] with ⟨bz, sZ⟩
      rw [hxZ] at hHZ
      simp only at hHZ
      have iZ : NI W H p HZ sZ [.str nm, vsV ins, vsV outs, vsV locs, E, .int .i64 pos] := by
        rw [hHZ]; exact iY.setp _
      have hEZ : EqsB (H.next + 2) H1.next HZ E l := hEY.to fun b b1 b2 => by
        have e : b ≠ p := by have := iI.l; omega
        rw [hHZ]; simp [e]
      clear hHZ
      have iZz := iZ.z
      unfold z6 at iZz
      have hnode : Syn.node W s = (⟨nm, ins, outs, locs, l, pos⟩, sZ) := by
        simp only [Syn.node, ← hs0, ← hs1, hx2, ← hs3, hx4, ← hs5, hx6, ← hs7, hx8, Bool.false_eq_true, if_false, ← hs9, ← hlocs, ← hsA, ← hargs, ← hsY, hxZ, ← hpos]
        try rfl
      rw [hnode]
      have hEsc : E.scalar = true ∧ E.cells = [E] := by
        rcases hE with ⟨_, rfl⟩ | ⟨_, b, opn, rfl, _⟩ <;> exact ⟨rfl, rfl⟩
      simp [t2, t3, iZ.g, iZz, hEsc.1, hEsc.2]
      refine ⟨?_, by simp [hp1, iZ.P], fun j y j1 j2 => ?_⟩
      · rcases hEZ with h | ⟨hln, b, opn, h1, h2, _, h3⟩
        · exact .inl h
        · have e : b ≠ H.next := by omega
          exact .inr ⟨hln, b, opn, h1, by omega, by simp [e, h3]⟩
      · have := old j y j2
        have e : j ≠ H.next := by omega
        simp [e, iZ.k j y this j1 j2]
    have hk' : ((((Syn.at_ W s').2.kind : Nat) : Int) = 1) = True := eq_true (by omega)
    simp [wdCells, hk', t0]
    refine does_use (p_word iI.P hi') ?_
    rintro _ HX ⟨rfl, hHX⟩
    rw [hHX]
    clear hHX HX
    simp [wdCells, t0]
    refine does_usew (p_name hW iI.P hi') ?_
    rintro _ HB ⟨rfl, hHB⟩ hwB _
    have hiB := (kp_name hW s' hi').1
    have hmB := name_lt he hk hi'
    rcases hxB : Syn.name W s' with ⟨nmq, sB⟩
    rw [hxB] at hHB hiB hmB
    simp only at hHB hiB hmB
    have iB : NI W H p HB sB [.str nm, vsV ins, vsV outs, vsV locs, E, .int .i64 pos] := by
      rw [hHB]; exact iI.setp _
    have hE' : EqsB (H.next + 2) HB.next HB E l := by
      rcases hE with h | ⟨hln, b, opn, h1, h2, _, h3⟩
      · exact .inl h
      · have e : b ≠ p := by have := iI.l; omega
        have h4 : HB.get b = some (.cells (eqsCells l)) := by rw [hHB]; simp [e, h3]
        exact .inr ⟨hln, b, opn, h1, h2, next_lt hwB h4, h4⟩
    clear hE hHB
    obtain ⟨posq, hposq⟩ : ∃ x, x = (Syn.at_ W s').1 := ⟨_, rfl⟩
    rw [← hposq]
    simp [t0]
    have iB2 := iB.push (.cells [.str nmq, .str [], .str [], .int .i64 0, .int .i64 0, .nilsl, .int .i64 posq])
    refine does_use (p_want hW (W := W) (s := sB) (iB2.push _).P hiB [[61]] _ 1 false (by simp) (by have := iB2.np; simpa using this) (by simp)) ?_
    rintro _ HC ⟨rfl, hHC⟩
    obtain ⟨sC, hsC⟩ : ∃ x, x = Syn.want1 W sB [61] := ⟨_, rfl⟩
    have hiC : sC.i < W.length := by rw [hsC]; exact want1_ok hW hiB _
    have hmC : mu W sC ≤ mu W sB := by rw [hsC]; exact want1_mu W sB _
    have iC : NI W H p HC sC [.str nm, vsV ins, vsV outs, vsV locs, E, .int .i64 pos] := by
      rw [hHC, hsC]; exact (iB2.push _).setp _
    have tbp := iB.np
    have nBC : HB.next < HC.next := by rw [hHC]; simp; omega
    have tC : HC.get HB.next = some (.cells [.str nmq, .str [], .str [], .int .i64 0, .int .i64 0, .nilsl, .int .i64 posq]) := by
      rw [hHC]; simp [tbp]
    have hEC : EqsB (H.next + 2) HB.next HC E l := hE'.to fun b b1 b2 => by
      have e : b ≠ p := by have := iI.l; omega
      have e3 : b ≠ HB.next := by omega
      have e4 : b ≠ HB.next + 1 := by omega
      rw [hHC]; simp [e, e3, e4]
    clear hE' hHC
    obtain ⟨sD, hsD⟩ : ∃ x : Syn.St, x = { sC with parts := 0 } := ⟨_, rfl⟩
    have hiD : sD.i < W.length := by rw [hsD]; exact hiC
    have hmD : mu W sD ≤ mu W sC := by rw [hsD]; exact Nat.le_refl _
    have stD : stCells W sD = [.vsl (flatW W) W.length, .int .i64 sC.i, .int .i64 sC.names, .int .i64 0, .int .i64 sC.err, .int .i64 sC.pos] := by rw [hsD]; rfl
    have hPC := iC.P
    unfold stCells at hPC
    simp [hPC, t0]
    rw [← stD]
    have iD := iC.setp sD
    obtain ⟨HE0, hHE0⟩ : ∃ x, x = HC.set p (.cells (stCells W sD)) := ⟨_, rfl⟩
    rw [← hHE0] at iD ⊢
    have hED : EqsB (H.next + 2) HB.next HE0 E l := hEC.to fun b b1 b2 => by
      have e : b ≠ p := by have := iI.l; omega
      rw [hHE0]; simp [e]
    have tD : HE0.get HB.next = some (.cells [.str nmq, .str [], .str [], .int .i64 0, .int .i64 0, .nilsl, .int .i64 posq]) := by rw [hHE0]; simp [tbp, tC]
    have nBD : HB.next < HE0.next := by rw [hHE0]; simpa using nBC
    clear hHE0 hEC tC
    refine does_use (p_ok iD.P) ?_
    rintro _ HX ⟨rfl, hHX⟩
    rw [hHX]
    clear hHX HX
    by_cases heD : sD.err = 0
    · have heC : sC.err = 0 := by rw [hsD] at heD; exact heD
      simp [heD, t0]
      refine does_use (p_top hW p _ sD iD.P hiD) ?_
      rintro _ HE ⟨rfl, hHE⟩
      have hiE := (top_keeps hW).i sD hiD
      have hmE := (top_keeps hW).mu sD hiD
      rcases hxe0 : (Syn.lv W 29).expr sD with ⟨⟨eop, enm, en, epos, eks⟩, sE⟩
      rw [hxe0] at hHE hiE hmE
      simp only at hHE hiE hmE
      have iE : NI W H p HE sE [.str nm, vsV ins, vsV outs, vsV locs, E, .int .i64 pos] := by
        rw [hHE]; exact iD.setp _
      have tE : HE.get HB.next = some (.cells [.str nmq, .str [], .str [], .int .i64 0, .int .i64 0, .nilsl, .int .i64 posq]) := by rw [hHE]; simp [tbp, tD]
      have hEE : EqsB (H.next + 2) HB.next HE E l := hED.to fun b b1 b2 => by
        have e : b ≠ p := by have := iI.l; omega
        rw [hHE]; simp [e]
      have nBE : HB.next < HE.next := by rw [hHE]; simpa using nBD
      clear hHE
      have iE2 := iE.sete HB.next (.cells [.str nmq, .str eop, .str enm, .int .i64 en, .int .i64 epos, kidsV eks, .int .i64 posq]) (by have := iB.n; omega)
      have tE2 : True := trivial
      simp [exCells_mk, tE, t0]
      refine does_use (p_want hW (W := W) (s := sE) (iE2.push _).P hiE [[59]] _ 1 false (by simp) (by have := iE2.np; simpa using this) (by simp)) ?_
      rintro _ HF ⟨rfl, hHF⟩
      obtain ⟨sF, hsF⟩ : ∃ x, x = Syn.want1 W sE [59] := ⟨_, rfl⟩
      have hiF : sF.i < W.length := by rw [hsF]; exact want1_ok hW hiE _
      have hmF : mu W sF ≤ mu W sE := by rw [hsF]; exact want1_mu W sE _
      have iF : NI W H p HF sF [.str nm, vsV ins, vsV outs, vsV locs, E, .int .i64 pos] := by
        rw [hHF, hsF]; exact (iE2.push _).setp _
      have nBF : HB.next < HF.next := by rw [hHF]; simp; omega
      have tF : HF.get HB.next = some (.cells (eqCells ⟨nmq, .mk eop enm en epos eks, posq⟩)) := by
        rw [hHF]; simp [tbp, Nat.ne_of_lt nBE, tE2, eqCells, exCells_mk, kidsV, Syn.Ex.zero]
      have hEF : EqsB (H.next + 2) HB.next HF E l := hEE.to fun b b1 b2 => by
        have e : b ≠ p := by have := iI.l; omega
        have e3 : b ≠ HB.next := by omega
        have e4 : b ≠ HE.next := by omega
        rw [hHF]; simp [e, e3, e4]
      clear hHF
      have hql := eqCells_len ⟨nmq, .mk eop enm en epos eks, posq⟩
      have hqs : ∀ x ∈ eqCells ⟨nmq, .mk eop enm en epos eks, posq⟩, x.scalar = true := by simp [eqCells, exCells_mk, Syn.Ex.zero]
      have hqq : eqsCells [⟨nmq, .mk eop enm en epos eks, posq⟩] = eqCells ⟨nmq, .mk eop enm en epos eks, posq⟩ := by simp [eqsCells]
      have hstep : Syn.eqsL W (k + 1) l s' = Syn.eqsL W k (l ++ [⟨nmq, .mk eop enm en epos eks, posq⟩]) sF := by
        rw [Syn.eqsL, if_pos ⟨he, hk⟩]
        simp only [hxB, ← hsC, ← hsD, hxe0, ← hposq]
        simp only [if_pos heC, ← hsF]
      rw [hstep] at hargs
      obtain ⟨q, hq⟩ : ∃ q : Syn.Eqn, q = ⟨nmq, .mk eop enm en epos eks, posq⟩ := ⟨_, rfl⟩
      rw [← hq] at tF hql hqs hqq hargs
      obtain ⟨qc, hqc⟩ : ∃ qc, qc = eqCells q := ⟨_, rfl⟩
      rw [← hqc] at tF hql hqs hqq
      have g7 : List.take 7 qc = qc := List.take_of_length_le (by omega)
      have hqs' : (∀ x : AV, x ∈ qc → x.scalar = true) = True := eq_true hqs
      have iFn := iF.n
      have iFg := iF.g
      have tbF : HB.next ≠ HF.next := by omega
      have n1F : H.next + 1 ≠ HF.next := by omega
      have n2F : H.next + 1 ≠ HF.next + 1 := by omega
      have n3F : H.next ≠ HF.next := by omega
      rcases hEF with ⟨rfl, rfl⟩ | ⟨hln, b, opn, rfl, hbn, hbB, hb⟩
      · simp [iFg, tF, n1F, n2F, n3F, tbF, t0, t2, t3, hql, g7, hqs']
        exact ⟨k, by omega, [q], sF, by simpa using hargs, by omega, hiF, by simp only [List.length_nil, List.length_cons] at hlm ⊢; omega, _, ((iF.push _).push _).setn _, .inr ⟨by simp, HF.next + 1, true, by simp, by omega, by simp [Ne.symm n3F, hqq]⟩⟩
      · have bF : b ≠ HF.next := by omega
        have g1 : List.take (l.length * 7) (eqsCells l) = eqsCells l := by rw [List.take_of_length_le]; rw [eqsCells_len]; omega
        have g2 : (eqsCells l).length = l.length * 7 := eqsCells_len l
        have hgrow : ¬ (l.length + 1 ≤ l.length) := by omega
        have g3 : (l.length + 1) * 96 ≤ 140737488355328 := by omega
        have g4 : l.length ≤ 4611686018427387903 := by omega
        have nb : H.next + 1 ≠ b := by omega
        have nbF : HF.next + 1 ≠ b := by omega
        cases opn
        · simp [iFg, tF, n1F, n2F, n3F, tbF, t0, t2, t3, hql, g7, hqs', hb, bF, g1, g2, g3, g4, hgrow]
          exact ⟨k, by omega, l ++ [q], sF, hargs, by omega, hiF, by simp; omega, _, ((iF.push _).push _).setn _, .inr ⟨by simp, HF.next + 1, true, by simp, by omega, by simp [Ne.symm n3F, hqq, eqsCells_append]⟩⟩
        · simp [iFg, tF, n1F, n2F, n3F, tbF, t0, t2, t3, hql, g7, hqs', hb, bF, g1, g2, g3, g4, hgrow, nb]
          exact ⟨k, by omega, l ++ [q], sF, hargs, by omega, hiF, by simp; omega, _, (((iF.push _).kill b (by omega)).push _).setn _, .inr ⟨by simp, HF.next + 1, true, by simp, by omega, by simp [Ne.symm n3F, hqq, eqsCells_append]⟩⟩
    · have heC : ¬ sC.err = 0 := by rw [hsD] at heD; exact heD
      simp [heD, t0]
      have hxe0 : True := trivial
      have hiE := hiD
      obtain ⟨HE, hHE⟩ : ∃ x, x = HE0 := ⟨_, rfl⟩
      rw [← hHE]
      rw [← hHE] at iD tD hED nBD
      have hEE := hED
      have nBE := nBD
      have tE2 := tD
      refine does_use (p_want hW (W := W) (s := sD) (iD.push _).P hiD [[59]] _ 1 false (by simp) (by have := iD.np; simpa using this) (by simp)) ?_
      rintro _ HF ⟨rfl, hHF⟩
      obtain ⟨sF, hsF⟩ : ∃ x, x = Syn.want1 W sD [59] := ⟨_, rfl⟩
      have hiF : sF.i < W.length := by rw [hsF]; exact want1_ok hW hiD _
      have hmF : mu W sF ≤ mu W sD := by rw [hsF]; exact want1_mu W sD _
      have iF : NI W H p HF sF [.str nm, vsV ins, vsV outs, vsV locs, E, .int .i64 pos] := by
        rw [hHF, hsF]; exact (iD.push _).setp _
      have nBF : HB.next < HF.next := by rw [hHF]; simp; omega
      have tF : HF.get HB.next = some (.cells (eqCells ⟨nmq, .zero, posq⟩)) := by
        rw [hHF]; simp [tbp, Nat.ne_of_lt nBE, tE2, eqCells, exCells_mk, kidsV, Syn.Ex.zero]
      have hEF : EqsB (H.next + 2) HB.next HF E l := hEE.to fun b b1 b2 => by
        have e : b ≠ p := by have := iI.l; omega
        have e3 : b ≠ HB.next := by omega
        have e4 : b ≠ HE.next := by omega
        rw [hHF]; simp [e, e3, e4]
      clear hHF
      have hql := eqCells_len ⟨nmq, .zero, posq⟩
      have hqs : ∀ x ∈ eqCells ⟨nmq, .zero, posq⟩, x.scalar = true := by simp [eqCells, exCells_mk, Syn.Ex.zero]
      have hqq : eqsCells [⟨nmq, .zero, posq⟩] = eqCells ⟨nmq, .zero, posq⟩ := by simp [eqsCells]
      have hstep : Syn.eqsL W (k + 1) l s' = Syn.eqsL W k (l ++ [⟨nmq, .zero, posq⟩]) sF := by
        rw [Syn.eqsL, if_pos ⟨he, hk⟩]
        simp only [hxB, ← hsC, ← hsD, hxe0, ← hposq]
        simp only [if_neg heC, ← hsF]
      rw [hstep] at hargs
      obtain ⟨q, hq⟩ : ∃ q : Syn.Eqn, q = ⟨nmq, .zero, posq⟩ := ⟨_, rfl⟩
      rw [← hq] at tF hql hqs hqq hargs
      obtain ⟨qc, hqc⟩ : ∃ qc, qc = eqCells q := ⟨_, rfl⟩
      rw [← hqc] at tF hql hqs hqq
      have g7 : List.take 7 qc = qc := List.take_of_length_le (by omega)
      have hqs' : (∀ x : AV, x ∈ qc → x.scalar = true) = True := eq_true hqs
      have iFn := iF.n
      have iFg := iF.g
      have tbF : HB.next ≠ HF.next := by omega
      have n1F : H.next + 1 ≠ HF.next := by omega
      have n2F : H.next + 1 ≠ HF.next + 1 := by omega
      have n3F : H.next ≠ HF.next := by omega
      rcases hEF with ⟨rfl, rfl⟩ | ⟨hln, b, opn, rfl, hbn, hbB, hb⟩
      · simp [iFg, tF, n1F, n2F, n3F, tbF, t0, t2, t3, hql, g7, hqs']
        exact ⟨k, by omega, [q], sF, by simpa using hargs, by omega, hiF, by simp only [List.length_nil, List.length_cons] at hlm ⊢; omega, _, ((iF.push _).push _).setn _, .inr ⟨by simp, HF.next + 1, true, by simp, by omega, by simp [Ne.symm n3F, hqq]⟩⟩
      · have bF : b ≠ HF.next := by omega
        have g1 : List.take (l.length * 7) (eqsCells l) = eqsCells l := by rw [List.take_of_length_le]; rw [eqsCells_len]; omega
        have g2 : (eqsCells l).length = l.length * 7 := eqsCells_len l
        have hgrow : ¬ (l.length + 1 ≤ l.length) := by omega
        have g3 : (l.length + 1) * 96 ≤ 140737488355328 := by omega
        have g4 : l.length ≤ 4611686018427387903 := by omega
        have nb : H.next + 1 ≠ b := by omega
        have nbF : HF.next + 1 ≠ b := by omega
        cases opn
        · simp [iFg, tF, n1F, n2F, n3F, tbF, t0, t2, t3, hql, g7, hqs', hb, bF, g1, g2, g3, g4, hgrow]
          exact ⟨k, by omega, l ++ [q], sF, hargs, by omega, hiF, by simp; omega, _, ((iF.push _).push _).setn _, .inr ⟨by simp, HF.next + 1, true, by simp, by omega, by simp [Ne.symm n3F, hqq, eqsCells_append]⟩⟩
        · simp [iFg, tF, n1F, n2F, n3F, tbF, t0, t2, t3, hql, g7, hqs', hb, bF, g1, g2, g3, g4, hgrow, nb]
          exact ⟨k, by omega, l ++ [q], sF, hargs, by omega, hiF, by simp; omega, _, (((iF.push _).kill b (by omega)).push _).setn _, .inr ⟨by simp, HF.next + 1, true, by simp, by omega, by simp [Ne.symm n3F, hqq, eqsCells_append]⟩⟩
  · simp
    refine does_use (p_locals' hW i8.P hi8) ?_
    rintro _ H9 ⟨rfl, hH9⟩
    have hi9 := (kp_locals hW s8 hi8).1
    rcases hx9 : Syn.locals_ W s8 with ⟨locs, s9⟩
    rw [hx9] at hH9 hi9
    simp only at hH9 hi9
    have i9 : NI W H p H9 s9 [.str nm, vsV ins, vsV outs, .nilsl, .nilsl, .int .i64 pos] := by
      rw [hH9]; exact i8.setp _
    clear hH9
    simp [i9.g]
    have j9 := i9.setn [.str nm, vsV ins, vsV outs, vsV locs, .nilsl, .int .i64 pos]
    refine does_use (p_want hW (W := W) (s := s9) (j9.push _).P hi9 [[108, 101, 116]] _ 1 false (by simp) j9.np (by simp)) ?_
    rintro _ HA ⟨rfl, hHA⟩
    obtain ⟨sA, hsA⟩ : ∃ x, x = Syn.want1 W s9 [108, 101, 116] := ⟨_, rfl⟩
    have hiA : sA.i < W.length := by rw [hsA]; exact want1_ok hW hi9 _
    have iA : NI W H p HA sA [.str nm, vsV ins, vsV outs, vsV locs, .nilsl, .int .i64 pos] := by
      rw [hHA, hsA]; exact (j9.push _).setp _
    clear hHA
    simp
    refine aws_loopw (fun m T' H' => ∃ l s' E, Syn.eqsL W m l s' = Syn.eqsL W (W.length + 1) [] sA ∧ mu W s' < m ∧ s'.i < W.length ∧ l.length + m ≤ W.length + 1 ∧
      T' 0 = .ptr p 0 ∧ T' 2 = .ptr H.next 0 ∧ T' 3 = .ptr (H.next + 1) 0 ∧ NI W H p H' s' [.str nm, vsV ins, vsV outs, vsV locs, E, .int .i64 pos] ∧ EqsR (H.next + 2) H' E l) (W.length + 1)
      ⟨[], sA, .nilsl, rfl, by unfold mu; split <;> omega, hiA, by simp, by simp, by simp, by simp, iA, .inl ⟨rfl, rfl⟩⟩ ?_
    rintro m T H1 ⟨l, s', E, hargs, hmu, hi', hlm, t0, t2, t3, iI, hE0⟩ hw1 _
    have hE : EqsB (H.next + 2) H1.next H1 E l := by
      rcases hE0 with h | ⟨hln, b, opn, h1, h2, h3⟩
      · exact .inl h
      · exact .inr ⟨hln, b, opn, h1, h2, next_lt hw1 h3, h3⟩
    obtain ⟨k, rfl⟩ : ∃ k, m = k + 1 := ⟨m - 1, by omega⟩
    simp [t0]
    refine does_use (p_ok iI.P) ?_
    rintro _ HX ⟨rfl, hHX⟩
    rw [hHX]
    clear hHX HX
    by_cases he : s'.err = 0
    rotate_left
    · have hend : Syn.eqsL W (k + 1) l s' = (l, s') := by rw [Syn.eqsL, if_neg (fun h => he h.1)]
      rw [hend] at hargs
      simp [he, t0, t2, t3]
      refine does_use (p_want hW (W := W) (s := s') (iI.push _).P hi' [[116, 101, 108]] _ 1 false (by simp) iI.np (by simp)) ?_
      rintro _ HY ⟨rfl, hHY⟩
      obtain ⟨sY, hsY⟩ : ∃ x, x = Syn.want1 W s' [116, 101, 108] := ⟨_, rfl⟩
      have hiY : sY.i < W.length := by rw [hsY]; exact want1_ok hW hi' _
      have iY : NI W H p HY sY [.str nm, vsV ins, vsV outs, vsV locs, E, .int .i64 pos] := by
        rw [hHY, hsY]; exact (iI.push _).setp _
      have hEY : EqsB (H.next + 2) H1.next HY E l := hE.to fun b b1 b2 => by
        have e : b ≠ p := by have := iI.l; omega
        have e3 : b ≠ H1.next := by omega
        rw [hHY]; simp [e, e3]
      clear hHY
      simp [t0]
      refine does_use (p_take hW iY.P hiY [59]) ?_
      rintro _ HZ ⟨rfl, hHZ⟩
      rcases hxZ : Syn.take W sY [59] with ⟨bz, sZ⟩
      rw [hxZ] at hHZ
      simp only at hHZ
      have iZ : NI W H p HZ sZ [.str nm, vsV ins, vsV outs, vsV locs, E, .int .i64 pos] := by
        rw [hHZ]; exact iY.setp _
      have hEZ : EqsB (H.next + 2) H1.next HZ E l := hEY.to fun b b1 b2 => by
        have e : b ≠ p := by have := iI.l; omega
        rw [hHZ]; simp [e]
      clear hHZ
      have iZz := iZ.z
      unfold z6 at iZz
      have hnode : Syn.node W s = (⟨nm, ins, outs, locs, l, pos⟩, sZ) := by
        simp only [Syn.node, ← hs0, ← hs1, hx2, ← hs3, hx4, ← hs5, hx6, ← hs7, hx8, if_true, hx9, ← hsA, ← hargs, ← hsY, hxZ, ← hpos]
        try rfl
      rw [hnode]
      have hEsc : E.scalar = true ∧ E.cells = [E] := by
        rcases hE with ⟨_, rfl⟩ | ⟨_, b, opn, rfl, _⟩ <;> exact ⟨rfl, rfl⟩
      simp [t2, t3, iZ.g, iZz, hEsc.1, hEsc.2]
      refine ⟨?_, by simp [hp1, iZ.P], fun j y j1 j2 => ?_⟩
      · rcases hEZ with h | ⟨hln, b, opn, h1, h2, _, h3⟩
        · exact .inl h
        · have e : b ≠ H.next := by omega
          exact .inr ⟨hln, b, opn, h1, by omega, by simp [e, h3]⟩
      · have := old j y j2
        have e : j ≠ H.next := by omega
        simp [e, iZ.k j y this j1 j2]
    simp [he, t0]
    refine does_use (p_word iI.P hi') ?_
    rintro _ HX ⟨rfl, hHX⟩
    rw [hHX]
    clear hHX HX
    by_cases hk : (Syn.at_ W s').2.kind = 1
    rotate_left
    · have hend : Syn.eqsL W (k + 1) l s' = (l, s') := by rw [Syn.eqsL, if_neg (fun h => hk h.2)]
      have hk' : ((((Syn.at_ W s').2.kind : Nat) : Int) = 1) = False := eq_false (by omega)
      rw [hend] at hargs
      simp [wdCells, hk', t0, t2, t3]
      refine does_use (p_want hW (W := W) (s := s') (iI.push _).P hi' [[116, 101, 108]] _ 1 false (by simp) iI.np (by simp)) ?_
      rintro _ HY ⟨rfl, hHY⟩
      obtain ⟨sY, hsY⟩ : ∃ x, x = Syn.want1 W s' [116, 101, 108] := ⟨_, rfl⟩
      have hiY : sY.i < W.length := by rw [hsY]; exact want1_ok hW hi' _
      have iY : NI W H p HY sY [.str nm, vsV ins, vsV outs, vsV locs, E, .int .i64 pos] := by
        rw [hHY, hsY]; exact (iI.push _).setp _
      have hEY : EqsB (H.next + 2) H1.next HY E l := hE.to fun b b1 b2 => by
        have e : b ≠ p := by have := iI.l; omega
        have e3 : b ≠ H1.next := by omega
        rw [hHY]; simp [e, e3]
      clear hHY
      simp [t0]
      refine does_use (p_take hW iY.P hiY [59]) ?_
      rintro _ HZ ⟨rfl, hHZ⟩
      rcases hxZ : Syn.take W sY [59] with ⟨bz, sZ⟩
      rw [hxZ] at hHZ
      simp only at hHZ
      have iZ : NI W H p HZ sZ [.str nm, vsV ins, vsV outs, vsV locs, E, .int .i64 pos] := by
        rw [hHZ]; exact iY.setp _
      have hEZ : EqsB (H.next + 2) H1.next HZ E l := hEY.to fun b b1 b2 => by
        have e : b ≠ p := by have := iI.l; omega
        rw [hHZ]; simp [e]
      clear hHZ
      have iZz := iZ.z
      unfold z6 at iZz
      have hnode : Syn.node W s = (⟨nm, ins, outs, locs, l, pos⟩, sZ) := by
        simp only [Syn.node, ← hs0, ← hs1, hx2, ← hs3, hx4, ← hs5, hx6, ← hs7, hx8, if_true, hx9, ← hsA, ← hargs, ← hsY, hxZ, ← hpos]
        try rfl
      rw [hnode]
      have hEsc : E.scalar = true ∧ E.cells = [E] := by
        rcases hE with ⟨_, rfl⟩ | ⟨_, b, opn, rfl, _⟩ <;> exact ⟨rfl, rfl⟩
      simp [t2, t3, iZ.g, iZz, hEsc.1, hEsc.2]
      refine ⟨?_, by simp [hp1, iZ.P], fun j y j1 j2 => ?_⟩
      · rcases hEZ with h | ⟨hln, b, opn, h1, h2, _, h3⟩
        · exact .inl h
        · have e : b ≠ H.next := by omega
          exact .inr ⟨hln, b, opn, h1, by omega, by simp [e, h3]⟩
      · have := old j y j2
        have e : j ≠ H.next := by omega
        simp [e, iZ.k j y this j1 j2]
    have hk' : ((((Syn.at_ W s').2.kind : Nat) : Int) = 1) = True := eq_true (by omega)
    simp [wdCells, hk', t0]
    refine does_use (p_word iI.P hi') ?_
    rintro _ HX ⟨rfl, hHX⟩
    rw [hHX]
    clear hHX HX
    simp [wdCells, t0]
    refine does_usew (p_name hW iI.P hi') ?_
    rintro _ HB ⟨rfl, hHB⟩ hwB _
    have hiB := (kp_name hW s' hi').1
    have hmB := name_lt he hk hi'
    rcases hxB : Syn.name W s' with ⟨nmq, sB⟩
    rw [hxB] at hHB hiB hmB
    simp only at hHB hiB hmB
    have iB : NI W H p HB sB [.str nm, vsV ins, vsV outs, vsV locs, E, .int .i64 pos] := by
      rw [hHB]; exact iI.setp _
    have hE' : EqsB (H.next + 2) HB.next HB E l := by
      rcases hE with h | ⟨hln, b, opn, h1, h2, _, h3⟩
      · exact .inl h
      · have e : b ≠ p := by have := iI.l; omega
        have h4 : HB.get b = some (.cells (eqsCells l)) := by rw [hHB]; simp [e, h3]
        exact .inr ⟨hln, b, opn, h1, h2, next_lt hwB h4, h4⟩
    clear hE hHB
    obtain ⟨posq, hposq⟩ : ∃ x, x = (Syn.at_ W s').1 := ⟨_, rfl⟩
    rw [← hposq]
    simp [t0]
    have iB2 := iB.push (.cells [.str nmq, .str [], .str [], .int .i64 0, .int .i64 0, .nilsl, .int .i64 posq])
    refine does_use (p_want hW (W := W) (s := sB) (iB2.push _).P hiB [[61]] _ 1 false (by simp) (by have := iB2.np; simpa using this) (by simp)) ?_
    rintro _ HC ⟨rfl, hHC⟩
    obtain ⟨sC, hsC⟩ : ∃ x, x = Syn.want1 W sB [61] := ⟨_, rfl⟩
    have hiC : sC.i < W.length := by rw [hsC]; exact want1_ok hW hiB _
    have hmC : mu W sC ≤ mu W sB := by rw [hsC]; exact want1_mu W sB _
    have iC : NI W H p HC sC [.str nm, vsV ins, vsV outs, vsV locs, E, .int .i64 pos] := by
      rw [hHC, hsC]; exact (iB2.push _).setp _
    have tbp := iB.np
    have nBC : HB.next < HC.next := by rw [hHC]; simp; omega
    have tC : HC.get HB.next = some (.cells [.str nmq, .str [], .str [], .int .i64 0, .int .i64 0, .nilsl, .int .i64 posq]) := by
      rw [hHC]; simp [tbp]
    have hEC : EqsB (H.next + 2) HB.next HC E l := hE'.to fun b b1 b2 => by
      have e : b ≠ p := by have := iI.l; omega
      have e3 : b ≠ HB.next := by omega
      have e4 : b ≠ HB.next + 1 := by omega
      rw [hHC]; simp [e, e3, e4]
    clear hE' hHC
    obtain ⟨sD, hsD⟩ : ∃ x : Syn.St, x = { sC with parts := 0 } := ⟨_, rfl⟩
    have hiD : sD.i < W.length := by rw [hsD]; exact hiC
    have hmD : mu W sD ≤ mu W sC := by rw [hsD]; exact Nat.le_refl _
    have stD : stCells W sD = [.vsl (flatW W) W.length, .int .i64 sC.i, .int .i64 sC.names, .int .i64 0, .int .i64 sC.err, .int .i64 sC.pos] := by rw [hsD]; rfl
    have hPC := iC.P
    unfold stCells at hPC
    simp [hPC, t0]
    rw [← stD]
    have iD := iC.setp sD
    obtain ⟨HE0, hHE0⟩ : ∃ x, x = HC.set p (.cells (stCells W sD)) := ⟨_, rfl⟩
    rw [← hHE0] at iD ⊢
    have hED : EqsB (H.next + 2) HB.next HE0 E l := hEC.to fun b b1 b2 => by
      have e : b ≠ p := by have := iI.l; omega
      rw [hHE0]; simp [e]
    have tD : HE0.get HB.next = some (.cells [.str nmq, .str [], .str [], .int .i64 0, .int .i64 0, .nilsl, .int .i64 posq]) := by rw [hHE0]; simp [tbp, tC]
    have nBD : HB.next < HE0.next := by rw [hHE0]; simpa using nBC
    clear hHE0 hEC tC
    refine does_use (p_ok iD.P) ?_
    rintro _ HX ⟨rfl, hHX⟩
    rw [hHX]
    clear hHX HX
    by_cases heD : sD.err = 0
    · have heC : sC.err = 0 := by rw [hsD] at heD; exact heD
      simp [heD, t0]
      refine does_use (p_top hW p _ sD iD.P hiD) ?_
      rintro _ HE ⟨rfl, hHE⟩
      have hiE := (top_keeps hW).i sD hiD
      have hmE := (top_keeps hW).mu sD hiD
      rcases hxe0 : (Syn.lv W 29).expr sD with ⟨⟨eop, enm, en, epos, eks⟩, sE⟩
      rw [hxe0] at hHE hiE hmE
      simp only at hHE hiE hmE
      have iE : NI W H p HE sE [.str nm, vsV ins, vsV outs, vsV locs, E, .int .i64 pos] := by
        rw [hHE]; exact iD.setp _
      have tE : HE.get HB.next = some (.cells [.str nmq, .str [], .str [], .int .i64 0, .int .i64 0, .nilsl, .int .i64 posq]) := by rw [hHE]; simp [tbp, tD]
      have hEE : EqsB (H.next + 2) HB.next HE E l := hED.to fun b b1 b2 => by
        have e : b ≠ p := by have := iI.l; omega
        rw [hHE]; simp [e]
      have nBE : HB.next < HE.next := by rw [hHE]; simpa using nBD
      clear hHE
      have iE2 := iE.sete HB.next (.cells [.str nmq, .str eop, .str enm, .int .i64 en, .int .i64 epos, kidsV eks, .int .i64 posq]) (by have := iB.n; omega)
      have tE2 : True := trivial
      simp [exCells_mk, tE, t0]
      refine does_use (p_want hW (W := W) (s := sE) (iE2.push _).P hiE [[59]] _ 1 false (by simp) (by have := iE2.np; simpa using this) (by simp)) ?_
      rintro _ HF ⟨rfl, hHF⟩
      obtain ⟨sF, hsF⟩ : ∃ x, x = Syn.want1 W sE [59] := ⟨_, rfl⟩
      have hiF : sF.i < W.length := by rw [hsF]; exact want1_ok hW hiE _
      have hmF : mu W sF ≤ mu W sE := by rw [hsF]; exact want1_mu W sE _
      have iF : NI W H p HF sF [.str nm, vsV ins, vsV outs, vsV locs, E, .int .i64 pos] := by
        rw [hHF, hsF]; exact (iE2.push _).setp _
      have nBF : HB.next < HF.next := by rw [hHF]; simp; omega
      have tF : HF.get HB.next = some (.cells (eqCells ⟨nmq, .mk eop enm en epos eks, posq⟩)) := by
        rw [hHF]; simp [tbp, Nat.ne_of_lt nBE, tE2, eqCells, exCells_mk, kidsV, Syn.Ex.zero]
      have hEF : EqsB (H.next + 2) HB.next HF E l := hEE.to fun b b1 b2 => by
        have e : b ≠ p := by have := iI.l; omega
        have e3 : b ≠ HB.next := by omega
        have e4 : b ≠ HE.next := by omega
        rw [hHF]; simp [e, e3, e4]
      clear hHF
      have hql := eqCells_len ⟨nmq, .mk eop enm en epos eks, posq⟩
      have hqs : ∀ x ∈ eqCells ⟨nmq, .mk eop enm en epos eks, posq⟩, x.scalar = true := by simp [eqCells, exCells_mk, Syn.Ex.zero]
      have hqq : eqsCells [⟨nmq, .mk eop enm en epos eks, posq⟩] = eqCells ⟨nmq, .mk eop enm en epos eks, posq⟩ := by simp [eqsCells]
      have hstep : Syn.eqsL W (k + 1) l s' = Syn.eqsL W k (l ++ [⟨nmq, .mk eop enm en epos eks, posq⟩]) sF := by
        rw [Syn.eqsL, if_pos ⟨he, hk⟩]
        simp only [hxB, ← hsC, ← hsD, hxe0, ← hposq]
        simp only [if_pos heC, ← hsF]
      rw [hstep] at hargs
      obtain ⟨q, hq⟩ : ∃ q : Syn.Eqn, q = ⟨nmq, .mk eop enm en epos eks, posq⟩ := ⟨_, rfl⟩
      rw [← hq] at tF hql hqs hqq hargs
      obtain ⟨qc, hqc⟩ : ∃ qc, qc = eqCells q := ⟨_, rfl⟩
      rw [← hqc] at tF hql hqs hqq
      have g7 : List.take 7 qc = qc := List.take_of_length_le (by omega)
      have hqs' : (∀ x : AV, x ∈ qc → x.scalar = true) = True := eq_true hqs
      have iFn := iF.n
      have iFg := iF.g
      have tbF : HB.next ≠ HF.next := by omega
      have n1F : H.next + 1 ≠ HF.next := by omega
      have n2F : H.next + 1 ≠ HF.next + 1 := by omega
      have n3F : H.next ≠ HF.next := by omega
      rcases hEF with ⟨rfl, rfl⟩ | ⟨hln, b, opn, rfl, hbn, hbB, hb⟩
      · simp [iFg, tF, n1F, n2F, n3F, tbF, t0, t2, t3, hql, g7, hqs']
        exact ⟨k, by omega, [q], sF, by simpa using hargs, by omega, hiF, by simp only [List.length_nil, List.length_cons] at hlm ⊢; omega, _, ((iF.push _).push _).setn _, .inr ⟨by simp, HF.next + 1, true, by simp, by omega, by simp [Ne.symm n3F, hqq]⟩⟩
      · have bF : b ≠ HF.next := by omega
        have g1 : List.take (l.length * 7) (eqsCells l) = eqsCells l := by rw [List.take_of_length_le]; rw [eqsCells_len]; omega
        have g2 : (eqsCells l).length = l.length * 7 := eqsCells_len l
        have hgrow : ¬ (l.length + 1 ≤ l.length) := by omega
        have g3 : (l.length + 1) * 96 ≤ 140737488355328 := by omega
        have g4 : l.length ≤ 4611686018427387903 := by omega
        have nb : H.next + 1 ≠ b := by omega
        have nbF : HF.next + 1 ≠ b := by omega
        cases opn
        · simp [iFg, tF, n1F, n2F, n3F, tbF, t0, t2, t3, hql, g7, hqs', hb, bF, g1, g2, g3, g4, hgrow]
          exact ⟨k, by omega, l ++ [q], sF, hargs, by omega, hiF, by simp; omega, _, ((iF.push _).push _).setn _, .inr ⟨by simp, HF.next + 1, true, by simp, by omega, by simp [Ne.symm n3F, hqq, eqsCells_append]⟩⟩
        · simp [iFg, tF, n1F, n2F, n3F, tbF, t0, t2, t3, hql, g7, hqs', hb, bF, g1, g2, g3, g4, hgrow, nb]
          exact ⟨k, by omega, l ++ [q], sF, hargs, by omega, hiF, by simp; omega, _, (((iF.push _).kill b (by omega)).push _).setn _, .inr ⟨by simp, HF.next + 1, true, by simp, by omega, by simp [Ne.symm n3F, hqq, eqsCells_append]⟩⟩
    · have heC : ¬ sC.err = 0 := by rw [hsD] at heD; exact heD
      simp [heD, t0]
      have hxe0 : True := trivial
      have hiE := hiD
      obtain ⟨HE, hHE⟩ : ∃ x, x = HE0 := ⟨_, rfl⟩
      rw [← hHE]
      rw [← hHE] at iD tD hED nBD
      have hEE := hED
      have nBE := nBD
      have tE2 := tD
      refine does_use (p_want hW (W := W) (s := sD) (iD.push _).P hiD [[59]] _ 1 false (by simp) (by have := iD.np; simpa using this) (by simp)) ?_
      rintro _ HF ⟨rfl, hHF⟩
      obtain ⟨sF, hsF⟩ : ∃ x, x = Syn.want1 W sD [59] := ⟨_, rfl⟩
      have hiF : sF.i < W.length := by rw [hsF]; exact want1_ok hW hiD _
      have hmF : mu W sF ≤ mu W sD := by rw [hsF]; exact want1_mu W sD _
      have iF : NI W H p HF sF [.str nm, vsV ins, vsV outs, vsV locs, E, .int .i64 pos] := by
        rw [hHF, hsF]; exact (iD.push _).setp _
      have nBF : HB.next < HF.next := by rw [hHF]; simp; omega
      have tF : HF.get HB.next = some (.cells (eqCells ⟨nmq, .zero, posq⟩)) := by
        rw [hHF]; simp [tbp, Nat.ne_of_lt nBE, tE2, eqCells, exCells_mk, kidsV, Syn.Ex.zero]
      have hEF : EqsB (H.next + 2) HB.next HF E l := hEE.to fun b b1 b2 => by
        have e : b ≠ p := by have := iI.l; omega
        have e3 : b ≠ HB.next := by omega
        have e4 : b ≠ HE.next := by omega
        rw [hHF]; simp [e, e3, e4]
      clear hHF
      have hql := eqCells_len ⟨nmq, .zero, posq⟩
      have hqs : ∀ x ∈ eqCells ⟨nmq, .zero, posq⟩, x.scalar = true := by simp [eqCells, exCells_mk, Syn.Ex.zero]
      have hqq : eqsCells [⟨nmq, .zero, posq⟩] = eqCells ⟨nmq, .zero, posq⟩ := by simp [eqsCells]
      have hstep : Syn.eqsL W (k + 1) l s' = Syn.eqsL W k (l ++ [⟨nmq, .zero, posq⟩]) sF := by
        rw [Syn.eqsL, if_pos ⟨he, hk⟩]
        simp only [hxB, ← hsC, ← hsD, hxe0, ← hposq]
        simp only [if_neg heC, ← hsF]
      rw [hstep] at hargs
      obtain ⟨q, hq⟩ : ∃ q : Syn.Eqn, q = ⟨nmq, .zero, posq⟩ := ⟨_, rfl⟩
      rw [← hq] at tF hql hqs hqq hargs
      obtain ⟨qc, hqc⟩ : ∃ qc, qc = eqCells q := ⟨_, rfl⟩
      rw [← hqc] at tF hql hqs hqq
      have g7 : List.take 7 qc = qc := List.take_of_length_le (by omega)
      have hqs' : (∀ x : AV, x ∈ qc → x.scalar = true) = True := eq_true hqs
      have iFn := iF.n
      have iFg := iF.g
      have tbF : HB.next ≠ HF.next := by omega
      have n1F : H.next + 1 ≠ HF.next := by omega
      have n2F : H.next + 1 ≠ HF.next + 1 := by omega
      have n3F : H.next ≠ HF.next := by omega
      rcases hEF with ⟨rfl, rfl⟩ | ⟨hln, b, opn, rfl, hbn, hbB, hb⟩
      · simp [iFg, tF, n1F, n2F, n3F, tbF, t0, t2, t3, hql, g7, hqs']
        exact ⟨k, by omega, [q], sF, by simpa using hargs, by omega, hiF, by simp only [List.length_nil, List.length_cons] at hlm ⊢; omega, _, ((iF.push _).push _).setn _, .inr ⟨by simp, HF.next + 1, true, by simp, by omega, by simp [Ne.symm n3F, hqq]⟩⟩
      · have bF : b ≠ HF.next := by omega
        have g1 : List.take (l.length * 7) (eqsCells l) = eqsCells l := by rw [List.take_of_length_le]; rw [eqsCells_len]; omega
        have g2 : (eqsCells l).length = l.length * 7 := eqsCells_len l
        have hgrow : ¬ (l.length + 1 ≤ l.length) := by omega
        have g3 : (l.length + 1) * 96 ≤ 140737488355328 := by omega
        have g4 : l.length ≤ 4611686018427387903 := by omega
        have nb : H.next + 1 ≠ b := by omega
        have nbF : HF.next + 1 ≠ b := by omega
        cases opn
        · simp [iFg, tF, n1F, n2F, n3F, tbF, t0, t2, t3, hql, g7, hqs', hb, bF, g1, g2, g3, g4, hgrow]
          exact ⟨k, by omega, l ++ [q], sF, hargs, by omega, hiF, by simp; omega, _, ((iF.push _).push _).setn _, .inr ⟨by simp, HF.next + 1, true, by simp, by omega, by simp [Ne.symm n3F, hqq, eqsCells_append]⟩⟩
        · simp [iFg, tF, n1F, n2F, n3F, tbF, t0, t2, t3, hql, g7, hqs', hb, bF, g1, g2, g3, g4, hgrow, nb]
          exact ⟨k, by omega, l ++ [q], sF, hargs, by omega, hiF, by simp; omega, _, (((iF.push _).kill b (by omega)).push _).setn _, .inr ⟨by simp, HF.next + 1, true, by simp, by omega, by simp [Ne.symm n3F, hqq, eqsCells_append]⟩⟩
theorem ndCells_lt (m : Nat) (n : Syn.Nd) : AV.allLt m (ndCells n) = true := by
  have h : (eqsV n.eqs).idLt m = true := by
    unfold eqsV
    split
    · rfl
    · simpa [AV.idLt] using eqsCells_lt m n.eqs
  simp [ndCells, AV.allLt, AV.idLt, vsV_lt, h]
theorem p_node' {W : Syn.Ws} (hW : WsOk W) {s : Syn.St} {p : Nat} {H : AHeap} (h : PAt H p W s) (hi : s.i < W.length) : Does Tryz.prog G 152 [.ptr p 0] H fun r H' => r = .agg (ndCells (Syn.node W s).1) ∧ H' = H.set p (.cells (stCells W (Syn.node W s).2)) := by
  refine Does.deep (p_node hW h hi) ?_
  rintro hw ha r H1 ⟨E, rfl, h1, h2, h3⟩
  refine ⟨_, H.set p (.cells (stCells W (Syn.node W s).2)), .agg (.cons (.old rfl) (.cons (.old (vsV_lt _ _)) (.cons (.old (vsV_lt _ _)) (.cons (.old (vsV_lt _ _)) (.cons h1.res (.cons (.old rfl) .nil)))))), rfl, set_back hw h h2 h3, rfl, rfl⟩
theorem eqsL_kp {W : Syn.Ws} (hW : WsOk W) : ∀ (m : Nat) (l : List Syn.Eqn) (s : Syn.St), Kp W s (Syn.eqsL W m l s).2
  | 0, l, s => Kp.refl s
  | m + 1, l, s => by
    unfold Syn.eqsL
    split
    · have h1 := kp_name hW s
      rcases hx : Syn.name W s with ⟨nm, s1⟩
      rw [hx] at h1
      simp only at h1 ⊢
      have h2 := kp_want1 hW s1 [61]
      have h3 : Kp W (Syn.want1 W s1 [61]) { Syn.want1 W s1 [61] with parts := 0 } := fun hi => ⟨hi, Nat.le_refl _⟩
      have h4 := (top_keeps hW).kp { Syn.want1 W s1 [61] with parts := 0 }
      split
      · rcases hy : (Syn.lv W 29).expr { Syn.want1 W s1 [61] with parts := 0 } with ⟨e, s2⟩
        rw [hy] at h4
        simp only at h4 ⊢
        exact h1.trans (h2.trans (h3.trans (h4.trans ((kp_want1 hW s2 [59]).trans (eqsL_kp hW m _ _)))))
      · exact h1.trans (h2.trans (h3.trans ((kp_want1 hW _ [59]).trans (eqsL_kp hW m _ _))))
    · exact Kp.refl s
theorem kp_node {W : Syn.Ws} (hW : WsOk W) (s : Syn.St) : Kp W s (Syn.node W s).2 := by
  have h0 : Kp W s { s with names := 0 } := fun hi => ⟨hi, Nat.le_refl _⟩
  have A := ((((((((h0.trans (kp_want1 hW _ [110, 111, 100, 101])).trans (kp_name hW _)).trans (kp_want1 hW _ [40])).trans (kp_decls hW _)).trans (kp_want hW [[41], [114, 101, 116, 117, 114, 110, 115], [40]] _)).trans (kp_decls hW _)).trans (kp_want hW [[41], [59]] _)).trans (kp_take hW _ [118, 97, 114]))
  have fin : ∀ x : List Syn.Va × Syn.St, Kp W s x.2 → Kp W s (Syn.take W (Syn.want1 W (Syn.eqsL W (W.length + 1) [] (Syn.want1 W x.2 [108, 101, 116])).2 [116, 101, 108]) [59]).2 := fun x h9 =>
    h9.trans ((kp_want1 hW x.2 _).trans ((eqsL_kp hW _ _ _).trans ((kp_want1 hW _ _).trans (kp_take hW _ _))))
  unfold Syn.node
  simp only
  refine fin _ ?_
  split
  · exact A.trans (kp_locals hW _)
  · exact A
end Go.Proofs.YtnhomjhfaoipmaaGreatDoor

namespace Go.Proofs.YtnhomjhfaoipmaaGreatDoor
open Go Go.Abs Go.Lex
set_option linter.unusedSimpArgs false
variable {G : Nat → Option AV}
def ndsCells : List Syn.Nd → List AV
  | [] => []
  | n :: l => ndCells n ++ ndsCells l
theorem ndsCells_len : ∀ l : List Syn.Nd, (ndsCells l).length = l.length * 6
  | [] => rfl
  | n :: l => by rw [ndsCells, List.length_append, ndsCells_len l]; simp [ndCells]; omega
theorem ndsCells_append : ∀ a b : List Syn.Nd, ndsCells (a ++ b) = ndsCells a ++ ndsCells b
  | [], b => rfl
  | n :: a, b => by rw [List.cons_append, ndsCells, ndsCells, ndsCells_append a b, List.append_assoc]
theorem ndsCells_lt (m : Nat) : ∀ l : List Syn.Nd, AV.allLt m (ndsCells l) = true
  | [] => rfl
  | n :: l => by rw [ndsCells, allLt_app, ndsCells_lt m l, ndCells_lt]; rfl
theorem eqsV_scalar (l : List Syn.Eqn) : (eqsV l).scalar = true := by unfold eqsV; split <;> rfl
theorem ndCells_scalar (n : Syn.Nd) : ∀ x ∈ ndCells n, x.scalar = true := by simp [ndCells, eqsV_scalar]
def ndsV (l : List Syn.Nd) : AV := if l.isEmpty then .nilsl else .vsl (ndsCells l) l.length
def NdsR (n : Nat) (H' : AHeap) (r : AV) (l : List Syn.Nd) : Prop := (l = [] ∧ r = .nilsl) ∨ l ≠ [] ∧ ∃ b op, r = .sl b 0 6 l.length l.length op ∧ n ≤ b ∧ H'.get b = some (.cells (ndsCells l))
theorem NdsR.res {n : Nat} {H' : AHeap} {r : AV} {l : List Syn.Nd} (h : NdsR n H' r l) : ResV H'.get n r (ndsV l) := by
  rcases h with ⟨rfl, rfl⟩ | ⟨hl, b, op, rfl, hb, hg⟩
  · exact .old rfl
  · have : ndsV l = .vsl (ndsCells l) l.length := by unfold ndsV; rw [if_neg (by simpa using hl)]
    rw [this]
    refine .sl hb hg ?_
    rw [List.drop_zero, List.take_of_length_le (by rw [ndsCells_len]; omega)]
    exact ResL.old (ndsCells_lt _ _)
theorem flatW_snoc : ∀ (l : List (Nat × Wd)) (n : Nat), flatW (l ++ [(n, ⟨0, [], 0⟩)]) = flatW l ++ [.int .i64 0, .str [], .int .i64 0, .int .i64 n]
  | [], n => rfl
  | (i, w) :: l, n => by rw [List.cons_append, flatW, flatW, flatW_snoc l n, List.append_assoc]
theorem sum_ge : ∀ l : List (Nat × Wd), (∀ w ∈ l, Wok w.2) → l.length ≤ (l.map fun w => w.2.text.length).sum
  | [], _ => by simp
  | w :: l, h => by
    have h1 := sum_ge l fun x hx => h x (by simp [hx])
    obtain ⟨s, hs⟩ := h w (by simp)
    cases s with
    | nil => simp [wordS] at hs
    | cons c q =>
      have h2 : w.2.text.length ≠ 0 := by simpa using (wordS_text hs).2
      simp only [List.length_cons, List.map_cons, List.sum_cons]
      omega
theorem wsOk_of {t : Bs} {l : List (Nat × Wd)} (ht : ¬ 16384 < t.length) (hc : cutS t.length t = .ok l) : WsOk (l ++ [(t.length, ⟨0, [], 0⟩)]) := by
  obtain ⟨h1, h2, h3⟩ := cut_words (t.length + 1) t (by omega) l hc
  have h4 := sum_ge l h1
  refine ⟨by simp; omega, fun i hi hk => ?_⟩
  simp only [List.length_append, List.length_singleton] at hi ⊢
  rcases Nat.lt_or_ge i l.length with g | g
  · omega
  · have : i = l.length := by omega
    subst this
    simp at hk
def ParseR (H : AHeap) (t : Bs) (r : AV) (H' : AHeap) : Prop := (∀ j x, H.get j = some x → H'.get j = some x) ∧ match Syn.parse t with
  | .ok ns => ∃ E, r = .tuple [E, .agg [.int .i64 0, .int .i64 0]] ∧ NdsR H.next H' E ns
  | .error (e, n) => r = .tuple [.nilsl, .agg [.int .i64 e, .int .i64 n]]
set_option maxHeartbeats 8000000 in
set_option maxRecDepth 100000 in
theorem p_parse_live (t : Bs) (hG : HasErr G) (H : AHeap) (hbig : t.length < 9223372036854775808) : Does Tryz.prog G 95 [.str t] H (ParseR H t) := by
  refine Does.wf Tryz.call95 fun hw _ => ?_
  have old : ∀ j x, H.get j = some x → j < H.next := fun j x hj => next_lt hw hj
  refine does_f Tryz.call95 Tryz.func95 rfl (by simp [Tryz.f95]) ?_
  simp
  refine does_use (cut_does t hG _ hbig) ?_
  rintro _ HX ⟨rfl, hHX⟩
  rw [hHX]
  clear hHX HX
  by_cases hL : 16384 < t.length
  · have hans : cutAns t = .tuple [.nilsl, .agg [.int .i64 2, .int .i64 t.length]] := by unfold cutAns; rw [if_pos hL]
    have hpar : Syn.parse t = .error (2, t.length) := by unfold Syn.parse; rw [if_pos hL]
    rw [hans]
    simp
    refine aw_drawn [(0, 0)] mixedOrders (by kernel_rfl) ?_
    intro es hes
    simp [rds, heapF]
    refine ⟨by subst hes; exact ⟨by kernel_rfl, by kernel_rfl⟩, ?_⟩
    refine ⟨fun j x hj => ?_, by rw [hpar]; rfl⟩
    have := old j x hj
    have e1 : j ≠ H.next := by omega
    have e2 : j ≠ H.next + 1 := by omega
    simp [e1, e2, hj]
  · cases hc : cutS t.length t with
    | error e =>
      have hans : cutAns t = .tuple [.nilsl, .agg [.int .i64 7, .int .i64 e]] := by unfold cutAns; rw [if_neg hL, hc]
      have hpar : Syn.parse t = .error (7, e) := by unfold Syn.parse; rw [if_neg hL, hc]
      rw [hans]
      simp
      refine aw_drawn [(0, 0)] mixedOrders (by kernel_rfl) ?_
      intro es hes
      simp [rds, heapF]
      refine ⟨by subst hes; exact ⟨by kernel_rfl, by kernel_rfl⟩, ?_⟩
      refine ⟨fun j x hj => ?_, by rw [hpar]; rfl⟩
      have := old j x hj
      have e1 : j ≠ H.next := by omega
      have e2 : j ≠ H.next + 1 := by omega
      simp [e1, e2, hj]
    | ok L =>
      obtain ⟨W, hWd⟩ : ∃ W, W = L ++ [(t.length, ⟨0, [], 0⟩)] := ⟨_, rfl⟩
      have hW : WsOk W := by rw [hWd]; exact wsOk_of hL hc
      have hans : cutAns t = .tuple [.vsl (flatW W) W.length, .agg [.int .i64 0, .int .i64 0]] := by
        unfold cutAns; rw [if_neg hL, hc, hWd]
        simp [flatW_snoc]
      have hWl : 0 < W.length := by rw [hWd]; simp
      have hpar : Syn.parse t = (if (Syn.nodesL W 33 [] ⟨0, 0, 0, 0, 0⟩).2.err = 0 then .ok (Syn.nodesL W 33 [] ⟨0, 0, 0, 0, 0⟩).1 else .error ((Syn.nodesL W 33 [] ⟨0, 0, 0, 0, 0⟩).2.err, (Syn.nodesL W 33 [] ⟨0, 0, 0, 0, 0⟩).2.pos)) := by
        unfold Syn.parse
        rw [if_neg hL, hc]
        simp only
        rw [← hWd]
      rw [hans]
      simp
      obtain ⟨s0, hs0⟩ : ∃ s0 : Syn.St, s0 = ⟨0, 0, 0, 0, 0⟩ := ⟨_, rfl⟩
      have st0 : stCells W s0 = [.vsl (flatW W) W.length, .int .i64 0, .int .i64 0, .int .i64 0, .int .i64 0, .int .i64 0] := by rw [hs0]; rfl
      rw [← st0]
      rw [← hs0] at hpar
      have hi0 : s0.i < W.length := by rw [hs0]; exact hWl
      refine aws_loopw (fun m T' H' => ∃ l s', Syn.nodesL W m l s' = Syn.nodesL W 33 [] s0 ∧ l.length + m = 33 ∧ l.length ≤ 32 ∧ s'.i < W.length ∧ T' 6 = .ptr (H.next + 1 + 1) 0 ∧ T' 3 = .ptr H.next 0 ∧ H'.get (H.next + 1 + 1) = some (.cells (stCells W s')) ∧
        H'.get H.next = some (.cells [.int .i64 0, .int .i64 0]) ∧ NdsR (H.next + 3) H' (T' 7) l ∧ H.next + 3 ≤ H'.next ∧ ∀ j x, H.get j = some x → H'.get j = some x) 33 ?_ ?_
      · refine ⟨[], s0, rfl, rfl, by simp, hi0, by simp, by simp, by simp, ?_, .inl ⟨rfl, by simp⟩, by simp, fun j x hj => ?_⟩
        · have e1 : H.next ≠ H.next + 1 := by omega
          have e2 : H.next ≠ H.next + 1 + 1 := by omega
          simp [e1, e2]
        · have := old j x hj
          have e1 : j ≠ H.next := by omega
          have e2 : j ≠ H.next + 1 := by omega
          have e3 : j ≠ H.next + 1 + 1 := by omega
          simp [e1, e2, e3, hj]
      rintro m T H1 ⟨l, s', hargs, hlm, hl32, hi', t6, t3, hP, hz, hN, hnx, hk⟩ hw1 _
      have hP' : PAt H1 (H.next + 1 + 1) W s' := hP
      have hal : alen Tryz.prog 107 (T 7) = some (.int .i64 l.length) := by
        rcases hN with ⟨rfl, e⟩ | ⟨_, b, op, e, _⟩ <;> rw [e] <;> rfl
      have step0 : ∀ k, m = k + 1 → (¬ (s'.err = 0 ∧ (l = [] ∨ Syn.kind W s' ≠ 0))) → Syn.nodesL W 33 [] s0 = (l, s') := fun k hm h => by
        rw [← hargs, hm, Syn.nodesL, if_neg h]
      obtain ⟨k, rfl⟩ : ∃ k, m = k + 1 := ⟨m - 1, by omega⟩
      simp [t6, t3, -alen]
      refine does_use (p_ok hP') ?_
      rintro _ HX ⟨rfl, hHX⟩
      rw [hHX]
      clear hHX HX
      by_cases he : s'.err = 0
      rotate_left
      · simp [he, t6, t3, -alen]
        try simp [t6]
        refine does_use (p_ok hP') ?_
        rintro _ HX ⟨rfl, hHX⟩
        rw [hHX]
        clear hHX HX
        by_cases hE : (s').err = 0
        · have hpr : Syn.parse t = .ok l := by rw [hpar, step0 k rfl (fun h => he h.1)]; exact if_pos hE
          simp [hE, t3, hz]
          refine ⟨fun j x hj => ?_, ?_⟩
          · have := old j x hj
            have e1 : j ≠ H.next := by omega
            simp [e1, hk j x hj]
          · rw [hpr]
            refine ⟨_, rfl, ?_⟩
            rcases hN with h | ⟨hln, b, op, h1, h2, h3⟩
            · exact .inl h
            · have e1 : b ≠ H.next := by omega
              exact .inr ⟨hln, b, op, h1, by omega, by simp [e1, h3]⟩
        · have hpr : Syn.parse t = .error ((s').err, (s').pos) := by rw [hpar, step0 k rfl (fun h => he h.1)]; exact if_neg hE
          have hPu := hP'
          unfold PAt stCells at hPu
          have hne : (H.next + 1 + 1) ≠ H.next := by omega
          simp [hE]
          refine aw_drawn [(3, 0)] mixedOrders (by kernel_rfl) ?_
          intro es hes
          simp [t6, t3, hPu, hz, rds, heapF]
          refine ⟨by subst hes; exact ⟨by kernel_rfl, by kernel_rfl⟩, fun j x hj => ?_, ?_⟩
          · have := old j x hj
            have e1 : j ≠ H.next := by omega
            simp [e1, hk j x hj]
          · rw [hpr]
      have hn0 : ∀ n : Nat, ((n : Int) = 0) = (n = 0) := fun n => by simp
      by_cases hl0 : l = []
      · have hc0 : s'.err = 0 ∧ (l = [] ∨ Syn.kind W s' ≠ 0) := ⟨he, .inl hl0⟩
        have hll : l.length = 0 := by rw [hl0]; rfl
        have h32 : ¬ l.length = 32 := by omega
        simp [he, t6, t3, hal, hl0, hll, -alen]
        refine does_usew (p_node' hW hP' hi') ?_
        rintro _ H2 ⟨rfl, hH2⟩ hw2 _
        have hi2 := (kp_node hW s' hi').1
        have hpz : H.next + 1 + 1 ≠ H.next := by omega
        have hn12 : H2.next = H1.next := by rw [hH2]; rfl
        have hP2' : H2.get (H.next + 1 + 1) = some (.cells (stCells W (Syn.node W s').2)) := by rw [hH2]; simp
        have hz2 : H2.get H.next = some (.cells [.int .i64 0, .int .i64 0]) := by rw [hH2]; simp [Ne.symm hpz, hz]
        have hk2 : ∀ j x, H.get j = some x → H2.get j = some x := fun j x hj => by
          have := old j x hj
          have e : j ≠ H.next + 1 + 1 := by omega
          rw [hH2]; simp [e, hk j x hj]
        have hstep : Syn.nodesL W (k + 1) l s' = Syn.nodesL W k (l ++ [(Syn.node W s').1]) (Syn.node W s').2 := by
          rw [Syn.nodesL, if_pos hc0, if_neg h32]
        have hN2 : NdsR (H.next + 3) H2 (T 7) l := by
          rcases hN with h | ⟨hln, b, op, h1, h2, h3⟩
          · exact .inl h
          · have e : b ≠ H.next + 1 + 1 := by omega
            exact .inr ⟨hln, b, op, h1, h2, by rw [hH2]; simp [e, h3]⟩
        clear hH2
        rw [hstep] at hargs
        have hl33 : l.length < 32 := by omega
        generalize Syn.node W s' = nx at *
        obtain ⟨nd, s2⟩ := nx
        simp only at hargs hP2' hi2
        have hsc : (∀ x : AV, x ∈ ndCells nd → x.scalar = true) = True := eq_true (ndCells_scalar nd)
        have hq6 : (ndCells nd).length = 6 := rfl
        have g7 : List.take 6 (ndCells nd) = ndCells nd := rfl
        have hqq : ndsCells [nd] = ndCells nd := by simp [ndsCells]
        generalize ndCells nd = qc at *
        have m1 : H.next ≠ H2.next := by omega
        have m2 : H.next ≠ H2.next + 1 := by omega
        have n1 : H.next + 1 + 1 ≠ H2.next := by omega
        have n2 : H.next + 1 + 1 ≠ H2.next + 1 := by omega
        have x1 : H.next + 1 ≠ H2.next := by omega
        rcases hN2 with ⟨rfl, e7⟩ | ⟨hln, b, opn, e7, hbn, hb⟩
        · simp [t6, t3, e7, hsc, hq6, g7, -alen]
          exact ⟨k, by omega, [nd], s2, by simpa using hargs, by simp at hlm ⊢; omega, by simp; try omega, hi2, by simp [x1, n1, n2, hP2'], by simp [m1, m2, hz2], .inr ⟨by simp, H2.next + 1, true, by simp, by omega, by simp [hqq, ndsCells_append]⟩, by omega, fun j x hj => by
              have := old j x hj
              have e1 : j ≠ H2.next := by omega
              have e2 : j ≠ H2.next + 1 := by omega
              simp [e1, e2, hk2 j x hj]⟩
        · have hbl := next_lt hw2 hb
          have b1 : b ≠ H2.next := by omega
          have g1 : List.take (l.length * 6) (ndsCells l) = ndsCells l := by rw [List.take_of_length_le]; rw [ndsCells_len]; omega
          have g2 : (ndsCells l).length = l.length * 6 := ndsCells_len l
          have g3 : (l.length + 1) * 120 ≤ 140737488355328 := by omega
          have g4 : l.length ≤ 4611686018427387903 := by omega
          have hgrow : ¬ (l.length + 1 ≤ l.length) := by omega
          have m3 : H.next ≠ b := by omega
          have n3 : H.next + 1 + 1 ≠ b := by omega
          cases opn
          · simp [t6, t3, e7, hsc, hq6, g7, hb, b1, g1, g2, g3, g4, hgrow, -alen]
            exact ⟨k, by omega, l ++ [nd], s2, hargs, by simp at hlm ⊢; omega, by simp; try omega, hi2, by simp [x1, n1, n2, hP2'], by simp [m1, m2, hz2], .inr ⟨by simp, H2.next + 1, true, by simp, by omega, by simp [hqq, ndsCells_append]⟩, by omega, fun j x hj => by
              have := old j x hj
              have e1 : j ≠ H2.next := by omega
              have e2 : j ≠ H2.next + 1 := by omega
              simp [e1, e2, hk2 j x hj]⟩
          · simp [t6, t3, e7, hsc, hq6, g7, hb, b1, g1, g2, g3, g4, hgrow, -alen]
            exact ⟨k, by omega, l ++ [nd], s2, hargs, by simp at hlm ⊢; omega, by simp; try omega, hi2, by simp [x1, n1, n2, n3, hP2'], by simp [m1, m2, m3, hz2], .inr ⟨by simp, H2.next + 1, true, by simp, by omega, by simp [hqq, ndsCells_append]⟩, by omega, fun j x hj => by
              have := old j x hj
              have e1 : j ≠ H2.next := by omega
              have e2 : j ≠ H2.next + 1 := by omega
              have e3 : j ≠ b := by omega
              simp [e1, e2, e3, hk2 j x hj]⟩
      · have hll : l.length ≠ 0 := by simpa using hl0
        simp [he, t6, t3, hal, hl0, hll, -alen]
        refine does_use (p_word hP' hi') ?_
        rintro _ HX ⟨rfl, hHX⟩
        rw [hHX]
        clear hHX HX
        by_cases hk0 : (Syn.at_ W s').2.kind = 0
        · have hk' : ((((Syn.at_ W s').2.kind : Nat) : Int) != 0) = false := by simp; omega
          simp [wdCells, hk', t6, t3, -alen]
          try simp [t6]
          refine does_use (p_ok hP') ?_
          rintro _ HX ⟨rfl, hHX⟩
          rw [hHX]
          clear hHX HX
          by_cases hE : (s').err = 0
          · have hpr : Syn.parse t = .ok l := by rw [hpar, step0 k rfl (fun h => h.2.elim hl0 (fun g => g hk0))]; exact if_pos hE
            simp [hE, t3, hz]
            refine ⟨fun j x hj => ?_, ?_⟩
            · have := old j x hj
              have e1 : j ≠ H.next := by omega
              simp [e1, hk j x hj]
            · rw [hpr]
              refine ⟨_, rfl, ?_⟩
              rcases hN with h | ⟨hln, b, op, h1, h2, h3⟩
              · exact .inl h
              · have e1 : b ≠ H.next := by omega
                exact .inr ⟨hln, b, op, h1, by omega, by simp [e1, h3]⟩
          · have hpr : Syn.parse t = .error ((s').err, (s').pos) := by rw [hpar, step0 k rfl (fun h => h.2.elim hl0 (fun g => g hk0))]; exact if_neg hE
            have hPu := hP'
            unfold PAt stCells at hPu
            have hne : (H.next + 1 + 1) ≠ H.next := by omega
            simp [hE]
            refine aw_drawn [(3, 0)] mixedOrders (by kernel_rfl) ?_
            intro es hes
            simp [t6, t3, hPu, hz, rds, heapF]
            refine ⟨by subst hes; exact ⟨by kernel_rfl, by kernel_rfl⟩, fun j x hj => ?_, ?_⟩
            · have := old j x hj
              have e1 : j ≠ H.next := by omega
              simp [e1, hk j x hj]
            · rw [hpr]
        · have hc0 : s'.err = 0 ∧ (l = [] ∨ Syn.kind W s' ≠ 0) := ⟨he, .inr hk0⟩
          have hk' : ((((Syn.at_ W s').2.kind : Nat) : Int) != 0) = true := by simp; omega
          simp [wdCells, hk', t6, t3, hal, -alen]
          by_cases h32 : l.length = 32
          · have h32' : (((l.length : Nat) : Int) = 32) = True := eq_true (by omega)
            simp [h32', t6, t3, -alen]
            refine does_use (p_fail hP' hi' 2) ?_
            rintro _ H2 ⟨rfl, hH2⟩
            have hpz : H.next + 1 + 1 ≠ H.next := by omega
            have hP2 : PAt H2 (H.next + 1 + 1) W (Syn.fail W 2 s') := by rw [hH2]; exact PAt.set _
            have hz2 : H2.get H.next = some (.cells [.int .i64 0, .int .i64 0]) := by rw [hH2]; simp [Ne.symm hpz, hz]
            have hk2 : ∀ j x, H.get j = some x → H2.get j = some x := fun j x hj => by
              have := old j x hj
              have e : j ≠ H.next + 1 + 1 := by omega
              rw [hH2]; simp [e, hk j x hj]
            have hN2 : NdsR (H.next + 3) H2 (T 7) l := by
              rcases hN with h | ⟨hln, b, op, h1, h2, h3⟩
              · exact .inl h
              · have e : b ≠ H.next + 1 + 1 := by omega
                exact .inr ⟨hln, b, op, h1, h2, by rw [hH2]; simp [e, h3]⟩
            have hfin2 : Syn.nodesL W 33 [] s0 = (l, Syn.fail W 2 s') := by
              rw [← hargs, Syn.nodesL, if_pos hc0, if_pos h32]
            clear hH2
            simp [t6, t3, -alen]
            try simp [t6]
            refine does_use (p_ok hP2) ?_
            rintro _ HX ⟨rfl, hHX⟩
            rw [hHX]
            clear hHX HX
            by_cases hE : ((Syn.fail W 2 s')).err = 0
            · have hpr : Syn.parse t = .ok l := by rw [hpar, hfin2]; exact if_pos hE
              simp [hE, t3, hz2]
              refine ⟨fun j x hj => ?_, ?_⟩
              · have := old j x hj
                have e1 : j ≠ H.next := by omega
                simp [e1, hk2 j x hj]
              · rw [hpr]
                refine ⟨_, rfl, ?_⟩
                rcases hN2 with h | ⟨hln, b, op, h1, h2, h3⟩
                · exact .inl h
                · have e1 : b ≠ H.next := by omega
                  exact .inr ⟨hln, b, op, h1, by omega, by simp [e1, h3]⟩
            · have hpr : Syn.parse t = .error (((Syn.fail W 2 s')).err, ((Syn.fail W 2 s')).pos) := by rw [hpar, hfin2]; exact if_neg hE
              have hPu := hP2
              unfold PAt stCells at hPu
              have hne : (H.next + 1 + 1) ≠ H.next := by omega
              simp [hE]
              refine aw_drawn [(3, 0)] mixedOrders (by kernel_rfl) ?_
              intro es hes
              simp [t6, t3, hPu, hz2, rds, heapF]
              refine ⟨by subst hes; exact ⟨by kernel_rfl, by kernel_rfl⟩, fun j x hj => ?_, ?_⟩
              · have := old j x hj
                have e1 : j ≠ H.next := by omega
                simp [e1, hk2 j x hj]
              · rw [hpr]
          · have h32' : (((l.length : Nat) : Int) = 32) = False := eq_false (by omega)
            simp [h32', t6, t3, -alen]
            refine does_usew (p_node' hW hP' hi') ?_
            rintro _ H2 ⟨rfl, hH2⟩ hw2 _
            have hi2 := (kp_node hW s' hi').1
            have hpz : H.next + 1 + 1 ≠ H.next := by omega
            have hn12 : H2.next = H1.next := by rw [hH2]; rfl
            have hP2' : H2.get (H.next + 1 + 1) = some (.cells (stCells W (Syn.node W s').2)) := by rw [hH2]; simp
            have hz2 : H2.get H.next = some (.cells [.int .i64 0, .int .i64 0]) := by rw [hH2]; simp [Ne.symm hpz, hz]
            have hk2 : ∀ j x, H.get j = some x → H2.get j = some x := fun j x hj => by
              have := old j x hj
              have e : j ≠ H.next + 1 + 1 := by omega
              rw [hH2]; simp [e, hk j x hj]
            have hstep : Syn.nodesL W (k + 1) l s' = Syn.nodesL W k (l ++ [(Syn.node W s').1]) (Syn.node W s').2 := by
              rw [Syn.nodesL, if_pos hc0, if_neg h32]
            have hN2 : NdsR (H.next + 3) H2 (T 7) l := by
              rcases hN with h | ⟨hln, b, op, h1, h2, h3⟩
              · exact .inl h
              · have e : b ≠ H.next + 1 + 1 := by omega
                exact .inr ⟨hln, b, op, h1, h2, by rw [hH2]; simp [e, h3]⟩
            clear hH2
            rw [hstep] at hargs
            have hl33 : l.length < 32 := by omega
            generalize Syn.node W s' = nx at *
            obtain ⟨nd, s2⟩ := nx
            simp only at hargs hP2' hi2
            have hsc : (∀ x : AV, x ∈ ndCells nd → x.scalar = true) = True := eq_true (ndCells_scalar nd)
            have hq6 : (ndCells nd).length = 6 := rfl
            have g7 : List.take 6 (ndCells nd) = ndCells nd := rfl
            have hqq : ndsCells [nd] = ndCells nd := by simp [ndsCells]
            generalize ndCells nd = qc at *
            have m1 : H.next ≠ H2.next := by omega
            have m2 : H.next ≠ H2.next + 1 := by omega
            have n1 : H.next + 1 + 1 ≠ H2.next := by omega
            have n2 : H.next + 1 + 1 ≠ H2.next + 1 := by omega
            have x1 : H.next + 1 ≠ H2.next := by omega
            rcases hN2 with ⟨rfl, e7⟩ | ⟨hln, b, opn, e7, hbn, hb⟩
            · simp [t6, t3, e7, hsc, hq6, g7, -alen]
              exact ⟨k, by omega, [nd], s2, by simpa using hargs, by simp at hlm ⊢; omega, by simp; try omega, hi2, by simp [x1, n1, n2, hP2'], by simp [m1, m2, hz2], .inr ⟨by simp, H2.next + 1, true, by simp, by omega, by simp [hqq, ndsCells_append]⟩, by omega, fun j x hj => by
                  have := old j x hj
                  have e1 : j ≠ H2.next := by omega
                  have e2 : j ≠ H2.next + 1 := by omega
                  simp [e1, e2, hk2 j x hj]⟩
            · have hbl := next_lt hw2 hb
              have b1 : b ≠ H2.next := by omega
              have g1 : List.take (l.length * 6) (ndsCells l) = ndsCells l := by rw [List.take_of_length_le]; rw [ndsCells_len]; omega
              have g2 : (ndsCells l).length = l.length * 6 := ndsCells_len l
              have g3 : (l.length + 1) * 120 ≤ 140737488355328 := by omega
              have g4 : l.length ≤ 4611686018427387903 := by omega
              have hgrow : ¬ (l.length + 1 ≤ l.length) := by omega
              have m3 : H.next ≠ b := by omega
              have n3 : H.next + 1 + 1 ≠ b := by omega
              cases opn
              · simp [t6, t3, e7, hsc, hq6, g7, hb, b1, g1, g2, g3, g4, hgrow, -alen]
                exact ⟨k, by omega, l ++ [nd], s2, hargs, by simp at hlm ⊢; omega, by simp; try omega, hi2, by simp [x1, n1, n2, hP2'], by simp [m1, m2, hz2], .inr ⟨by simp, H2.next + 1, true, by simp, by omega, by simp [hqq, ndsCells_append]⟩, by omega, fun j x hj => by
                  have := old j x hj
                  have e1 : j ≠ H2.next := by omega
                  have e2 : j ≠ H2.next + 1 := by omega
                  simp [e1, e2, hk2 j x hj]⟩
              · simp [t6, t3, e7, hsc, hq6, g7, hb, b1, g1, g2, g3, g4, hgrow, -alen]
                exact ⟨k, by omega, l ++ [nd], s2, hargs, by simp at hlm ⊢; omega, by simp; try omega, hi2, by simp [x1, n1, n2, n3, hP2'], by simp [m1, m2, m3, hz2], .inr ⟨by simp, H2.next + 1, true, by simp, by omega, by simp [hqq, ndsCells_append]⟩, by omega, fun j x hj => by
                  have := old j x hj
                  have e1 : j ≠ H2.next := by omega
                  have e2 : j ≠ H2.next + 1 := by omega
                  have e3 : j ≠ b := by omega
                  simp [e1, e2, e3, hk2 j x hj]⟩
def parseAns (t : Bs) : AV := match Syn.parse t with
  | .ok ns => .tuple [ndsV ns, .agg [.int .i64 0, .int .i64 0]]
  | .error (e, n) => .tuple [.nilsl, .agg [.int .i64 e, .int .i64 n]]
theorem p_parse (t : Bs) (hG : HasErr G) (H : AHeap) (hbig : t.length < 9223372036854775808) : Does Tryz.prog G 95 [.str t] H fun r H' => r = parseAns t ∧ H' = H := by
  refine Does.deep (p_parse_live t hG H hbig) ?_
  rintro hw ha r H1 ⟨h1, h2⟩
  refine ⟨parseAns t, H, ?_, rfl, fun i x hi => ⟨h1 i x hi, (hw i x hi).1, (hw i x hi).2⟩, rfl, rfl⟩
  unfold parseAns
  cases hp : Syn.parse t with
  | ok ns =>
    rw [hp] at h2
    obtain ⟨E, rfl, hE⟩ := h2
    exact .tuple (.cons hE.res (.cons (.old rfl) .nil))
  | error x =>
    rw [hp] at h2
    obtain ⟨e, n⟩ := x
    simp only at h2
    subst h2
    exact .old rfl
end Go.Proofs.YtnhomjhfaoipmaaGreatDoor

namespace Go.Proofs.YtnhomjhfaoipmaaGreatDoor
open Go Go.Abs Go.Lex
def isErrCell : Option AV → Bool
  | some (.vptr [.iface _ _]) => true
  | _ => false
theorem errCell : isErrCell (Gof tab 2) = true := by kernel_rfl
theorem hasErr : HasErr (Gof tab) := by
  have h := errCell
  unfold isErrCell at h
  split at h
  · rename_i t v he; exact ⟨t, v, he⟩
  · simp at h
end Go.Proofs.YtnhomjhfaoipmaaGreatDoor

namespace Go.Proofs.YtnhomjhfaoipmaaGreatDoor
open Go Go.Abs Go.Lex
theorem flatW_cellsW (l : List (Nat × Wd)) : flatW l = cellsW l := by
  induction l with
  | nil => rfl
  | cons x l ih =>
    obtain ⟨i, w⟩ := x
    simp only [flatW, cellsW, ih, wdCells]
theorem cutAns_eq (t : Bs) : cutAns t = cutA t := by
  unfold cutAns cutA
  split
  · rfl
  · cases cutS t.length t with
    | ok l => simp only [flatW_cellsW]
    | error e => rfl
theorem cutOv_good (args : List AV) (H : FH) (k : AV → FH → Bool) (h : cutOv args H k = true) :
    ∃ v H', Does Tryz.prog (Gof tab) 148 args H.abs (fun r h => r = v ∧ h = FH.abs H') ∧ H.next ≤ H'.next ∧ k v H' = true := by
  obtain ⟨s, rfl, hl, hk⟩ := cutOv_inv h
  exact ⟨_, H, (cut_does s hasErr H.abs (by omega)).mono fun r h hr => ⟨hr.1.trans (cutAns_eq s), hr.2⟩, Nat.le_refl _, hk⟩
noncomputable def knownC : Ov := ovAdd 148 cutOv known
theorem knownC_good : OvGoodK Tryz.prog (Gof tab) knownC := ovAdd_good cutOv_good (known_good _)
end Go.Proofs.YtnhomjhfaoipmaaGreatDoor

namespace Go.Proofs.YtnhomjhfaoipmaaGreatDoor
open Go Go.Abs Go.RowKit
noncomputable def knownW : Ov := knownC
theorem knownW_good : OvGoodK Tryz.prog (Gof tab) knownW := knownC_good
end Go.Proofs.YtnhomjhfaoipmaaGreatDoor

namespace Go.Proofs.YtnhomjhfaoipmaaGreatDoor
open Go Go.Abs Go.Lex
set_option linter.unusedSimpArgs false
def wsOf : List AV → Syn.Ws
  | .int _ a :: .str s :: .int _ b :: .int _ c :: r => (c.toNat, ⟨a.toNat, s, b.toNat⟩) :: wsOf r
  | _ => []
theorem wsOf_flatW : ∀ W : Syn.Ws, wsOf (flatW W) = W
  | [] => rfl
  | (i, w) :: W => by
    have ih := wsOf_flatW W
    show wsOf (.int .i64 w.kind :: .str w.text :: .int .i64 w.n :: .int .i64 i :: flatW W) = _
    simp only [wsOf, ih, Int.toNat_natCast]
noncomputable def parseW (W : Syn.Ws) (k : AV → Bool) : Bool :=
  (fun x : List Syn.Nd × Syn.St => ifK (Nat.beq x.2.err 0) (k (.tuple [ndsV x.1, .agg [.int .i64 0, .int .i64 0]])) (k (.tuple [.nilsl, .agg [.int .i64 x.2.err, .int .i64 x.2.pos]]))) (Syn.nodesL W 33 [] ⟨0, 0, 0, 0, 0⟩)
noncomputable def parseV (g : List AV → (AV → Bool) → Bool) (v : AV) (H : FH) (k : AV → FH → Bool) : Bool :=
  v.onTuple false fun l => twoK l (fun c f => c.onSl false (k (.tuple [.nilsl, f]) H) (fun _ _ _ _ _ _ => false) fun cs _ => g cs fun r => k r H) false
theorem parseV_ok (g : List AV → (AV → Bool) → Bool) (cs : List AV) (n : Nat) (f : AV) (H : FH) (k : AV → FH → Bool) : parseV g (.tuple [.vsl cs n, f]) H k = g cs fun r => k r H := rfl
theorem parseV_bad (g : List AV → (AV → Bool) → Bool) (f : AV) (H : FH) (k : AV → FH → Bool) : parseV g (.tuple [.nilsl, f]) H k = k (.tuple [.nilsl, f]) H := rfl
noncomputable def parseOv (args : List AV) (H : FH) (k : AV → FH → Bool) : Bool := cutOv args H fun v _ => parseV (fun cs => parseW (wsOf cs)) v H k
theorem parseOv_inv {args : List AV} {H : FH} {k : AV → FH → Bool} (h : parseOv args H k = true) : ∃ s : Bs, args = [.str s] ∧ s.length ≤ 140737488355328 ∧ k (parseAns s) H = true := by
  obtain ⟨s, rfl, hl, h⟩ := cutOv_inv h
  refine ⟨s, rfl, hl, ?_⟩
  rw [← cutAns_eq] at h
  by_cases hL : 16384 < s.length
  · have hans : cutAns s = .tuple [.nilsl, .agg [.int .i64 2, .int .i64 s.length]] := by unfold cutAns; rw [if_pos hL]
    have hpar : Syn.parse s = .error (2, s.length) := by unfold Syn.parse; rw [if_pos hL]
    rw [hans, parseV_bad] at h
    unfold parseAns
    rw [hpar]
    exact h
  · cases hc : cutS s.length s with
    | error e =>
      have hans : cutAns s = .tuple [.nilsl, .agg [.int .i64 7, .int .i64 e]] := by unfold cutAns; rw [if_neg hL, hc]
      have hpar : Syn.parse s = .error (7, e) := by unfold Syn.parse; rw [if_neg hL, hc]
      rw [hans, parseV_bad] at h
      unfold parseAns
      rw [hpar]
      exact h
    | ok L =>
      obtain ⟨W, hWd⟩ : ∃ W, W = L ++ [(s.length, ⟨0, [], 0⟩)] := ⟨_, rfl⟩
      have hans : cutAns s = .tuple [.vsl (flatW W) W.length, .agg [.int .i64 0, .int .i64 0]] := by
        unfold cutAns; rw [if_neg hL, hc, hWd]
        simp [flatW_snoc]
      have hpar : Syn.parse s = (if (Syn.nodesL W 33 [] ⟨0, 0, 0, 0, 0⟩).2.err = 0 then .ok (Syn.nodesL W 33 [] ⟨0, 0, 0, 0, 0⟩).1 else .error ((Syn.nodesL W 33 [] ⟨0, 0, 0, 0, 0⟩).2.err, (Syn.nodesL W 33 [] ⟨0, 0, 0, 0, 0⟩).2.pos)) := by
        unfold Syn.parse
        rw [if_neg hL, hc]
        simp only
        rw [← hWd]
      rw [hans, parseV_ok] at h
      simp only [wsOf_flatW] at h
      unfold parseW at h
      unfold parseAns
      rw [hpar]
      generalize Syn.nodesL W 33 [] ⟨0, 0, 0, 0, 0⟩ = x at h ⊢
      obtain ⟨ns, st⟩ := x
      simp only at h ⊢
      by_cases he : st.err = 0
      · rw [if_pos he]
        rw [he] at h
        exact h
      · rw [if_neg he]
        have : Nat.beq st.err 0 = false := by
          cases hb : Nat.beq st.err 0 with
          | false => rfl
          | true => exact absurd (Nat.eq_of_beq_eq_true hb) he
        rw [this] at h
        exact h
theorem parseOv_good (args : List AV) (H : FH) (k : AV → FH → Bool) (h : parseOv args H k = true) :
    ∃ v H', Does Tryz.prog (Gof tab) 95 args H.abs (fun r h => r = v ∧ h = FH.abs H') ∧ H.next ≤ H'.next ∧ k v H' = true := by
  obtain ⟨s, rfl, hl, hk⟩ := parseOv_inv h
  exact ⟨_, H, (p_parse s hasErr H.abs (by omega)).mono fun r h hr => ⟨hr.1, hr.2⟩, Nat.le_refl _, hk⟩
noncomputable def knownP : Ov := ovAdd 95 parseOv knownW
theorem knownP_good : OvGoodK Tryz.prog (Gof tab) knownP := ovAdd_good parseOv_good knownW_good
end Go.Proofs.YtnhomjhfaoipmaaGreatDoor

namespace Go.Proofs.YtnhomjhfaoipmaaGreatDoor
open Go Go.Abs Go.Lex
set_option linter.unusedSimpArgs false
set_option maxRecDepth 100000
theorem gof_low5 : ∀ (T : List (Nat × List AV)), (T.all fun p => (AV.vptr p.2).idLt 0) = true → ∀ g a, Gof T g = some a → a.idLt 0 = true
  | [], _, g, a, ha => by simp [Gof] at ha
  | (h, l) :: r, hT, g, a, ha => by
    simp only [List.all_cons, Bool.and_eq_true] at hT
    simp only [Gof] at ha
    split at ha
    · cases ha; exact hT.1
    · exact gof_low5 r hT.2 g a ha
theorem mixed5 : Tryz.prog.follows .mixedOrders = true := by kernel_rfl
theorem plain5 : plainFn Tryz.prog = true := by kernel_rfl
theorem gof_tab5 : ∀ g a, Gof tab g = some a → a.idLt 0 = true := gof_low5 tab (by kernel_rfl)
end Go.Proofs.YtnhomjhfaoipmaaGreatDoor
