/-
  Own library of this claim, part 5: texts one behind the other (SyP13, SyP14, SyP15, SyP16, SyP17, SyP18, BrK, FmB, FmI, FmJ, LxE, LxO, SyB, SyO, SyG, FmK, FmL, FmM, FmN, FmO, FmP, FmQ, FmR).
-/
import Derived.Test.YthmnpnbcdoemfaaGreatDoorLibFrontManyD

namespace Go.Proofs.YthmnpnbcdoemfaaGreatDoor
open Go Go.Abs Go.Lex
set_option linter.unusedSimpArgs false
variable {G : Nat → Option AV}
def setK (k : Nat) (v : Syn.Va) : Syn.Va := { v with kind := k }
def DeclR (H : AHeap) (p : Nat) (W : Syn.Ws) (x : List Syn.Va × Syn.St) (r : AV) (H' : AHeap) : Prop :=
  (∃ b op, r = .sl b 0 5 x.1.length x.1.length op ∧ H.next ≤ b ∧ H'.get b = some (.cells (vasCells x.1))) ∧ H'.get p = some (.cells (stCells W x.2)) ∧ ∀ j y, j ≠ p → H.get j = some y → H'.get j = some y
theorem vas_put (a c : List Syn.Va) (v : Syn.Va) (k : Nat) : List.take (a.length * 5 + 1) (vasCells (a ++ v :: c)) ++ .int .i64 k :: List.drop (a.length * 5 + 1 + 1) (vasCells (a ++ v :: c)) = vasCells ((a ++ [setK k v]) ++ c) := by
  rw [vasCells_append, vasCells_append, vasCells_append]
  have h1 : (vasCells a).length = a.length * 5 := vasCells_len a
  rw [List.take_append, List.drop_append, h1]
  have e1 : List.take (a.length * 5 + 1) (vasCells a) = vasCells a := by rw [List.take_of_length_le]; omega
  have e2 : List.drop (a.length * 5 + 1 + 1) (vasCells a) = [] := by rw [List.drop_of_length_le]; omega
  have e3 : a.length * 5 + 1 - a.length * 5 = 1 := by omega
  have e4 : a.length * 5 + 1 + 1 - a.length * 5 = 2 := by omega
  rw [e1, e2, e3, e4]
  simp [vasCells, vaCells, setK]
theorem declL_kp {W : Syn.Ws} (hW : WsOk W) : ∀ (m : Nat) (l : List Syn.Va) (s : Syn.St), Kp W s (Syn.declL W m l s).2
  | 0, l, s => Kp.refl s
  | m + 1, l, s => by
    unfold Syn.declL
    split
    · rename_i ho
      have h1 := kp_succ hW (is_kind ho).2
      have h2 := kp_declared hW { s with i := s.i + 1 }
      rcases hx : Syn.declared W { s with i := s.i + 1 } with ⟨v, s2⟩
      rw [hx] at h2
      simp only at h2 ⊢
      exact h1.trans (h2.trans (declL_kp hW m _ _))
    · exact Kp.refl s
theorem kp_decl {W : Syn.Ws} (hW : WsOk W) (s : Syn.St) : Kp W s (Syn.decl W s).2 := by
  unfold Syn.decl
  have h1 := kp_declared hW s
  rcases hx : Syn.declared W s with ⟨v, s1⟩
  rw [hx] at h1
  simp only at h1 ⊢
  have h2 := declL_kp hW (W.length + 1) [v] s1
  rcases hy : Syn.declL W (W.length + 1) [v] s1 with ⟨l, s2⟩
  rw [hy] at h2
  simp only at h2 ⊢
  have h3 := kp_want1 hW s2 [58]
  split
  · rename_i ho
    exact h1.trans (h2.trans (h3.trans (kp_succ hW (is_kind ho).2)))
  split
  · rename_i ho
    exact h1.trans (h2.trans (h3.trans (kp_succ hW (is_kind ho).2)))
  · exact h1.trans (h2.trans (h3.trans (kp_fail (by omega) _)))
set_option maxHeartbeats 8000000 in
set_option maxRecDepth 100000 in
theorem p_decl {W : Syn.Ws} (hW : WsOk W) {s : Syn.St} {p : Nat} {H : AHeap} (h : PAt H p W s) (hi : s.i < W.length) : Does Tryz.prog G 111 [.ptr p 0] H (DeclR H p W (Syn.decl W s)) := by
  refine Does.wf Tryz.call111 fun hw _ => ?_
  have old : ∀ j x, H.get j = some x → j < H.next := fun j x hj => next_lt hw hj
  refine does_f Tryz.call111 Tryz.func111 rfl (by simp [Tryz.f111]) ?_
  have hpl := old _ _ h
  have hp1 : p ≠ H.next := by omega
  have hq1 := Ne.symm hp1
  simp
  refine does_use (p_declared hW h hi) ?_
  rintro _ H1 ⟨rfl, rfl⟩
  have hi1 := (kp_declared hW s hi).1
  rcases hx : Syn.declared W s with ⟨v0, s1⟩
  rw [hx] at hi1
  simp only at hi1
  simp [vaCells, hp1, hq1]
  have hsm := hW.small
  refine aws_loopw (fun m T' H' => ∃ l s' b opn, Syn.declL W m l s' = Syn.declL W (W.length + 1) [v0] s1 ∧ mu W s' < m ∧ s'.i < W.length ∧ l.length + m ≤ W.length + 2 ∧
    T' 0 = .ptr p 0 ∧ T' 3 = .sl b 0 5 l.length l.length opn ∧ H'.get b = some (.cells (vasCells l)) ∧ H.next ≤ b ∧ PAt H' p W s' ∧ (∀ x y, x ≠ p → H.get x = some y → H'.get x = some y)) (W.length + 1) ?_ ?_
  · refine ⟨_, _, H.next, false, rfl, ?_, hi1, by simp; omega, by simp, by simp, by simp [vasCells, vaCells], by omega, by unfold PAt; simp [hp1], fun x y hxp hxy => ?_⟩
    · unfold mu; split <;> omega
    · have := old x y hxy
      have k1 : x ≠ H.next := by omega
      simp [hxy, hxp, k1]
  rintro m T H1 ⟨l, s', b, opn, hargs, hmu, hi', hlm, t0, t3, hb, hbn, hP, hkeep⟩ hw1 _
  have hN := next_lt hw1 hb
  have hp2 : p ≠ H1.next := by omega
  have hp3 : p ≠ H1.next + 1 := by omega
  have hq2 := Ne.symm hp2
  have hq3 := Ne.symm hp3
  have hpb : p ≠ b := by omega
  have hqb := Ne.symm hpb
  have n1 : b ≠ H1.next := by omega
  have n2 : b ≠ H1.next + 1 := by omega
  have n3 := Ne.symm n1
  have n4 := Ne.symm n2
  obtain ⟨k, rfl⟩ : ∃ k, m = k + 1 := ⟨m - 1, by omega⟩
  simp [t0, t3]
  refine does_use (p_take hW hP hi' [44]) ?_
  rintro _ H2 ⟨rfl, rfl⟩
  by_cases ho : Syn.is W s' [44] = true
  · have hi2 := ok_succ hW hi' (is_kind ho).2
    have hm2 : mu W { s' with i := s'.i + 1 } < mu W s' := by
      have h0 := (is_kind ho).1
      unfold mu
      simp only [h0, if_true]
      omega
    simp [Syn.take, ho, t0, t3]
    refine does_use (p_declared hW (W := W) (s := { s' with i := s'.i + 1 }) (PAt.set _) hi2) ?_
    rintro _ H3 ⟨rfl, rfl⟩
    obtain ⟨hi4, hm4⟩ := kp_declared hW { s' with i := s'.i + 1 } hi2
    rcases hy : Syn.declared W { s' with i := s'.i + 1 } with ⟨v, s4⟩
    rw [hy] at hi4 hm4
    simp only at hi4 hm4
    have hgrow : ¬ (l.length + 1 ≤ l.length) := by omega
    have g1 : (l.length + 1) * 56 ≤ 140737488355328 := by omega
    have g2 : l.length ≤ 4611686018427387903 := by omega
    have g3 : List.take (l.length * 5) (vasCells l) = vasCells l := by rw [List.take_of_length_le]; rw [vasCells_len]; omega
    have g4 : l.length * 5 ≤ (vasCells l).length := by rw [vasCells_len]; omega
    cases opn <;> simp [vaCells, t0, t3, hb, hpb, hqb, hp2, hp3, hq2, hq3, n1, n2, n3, n4, hgrow, g1, g2, g3, g4]
    all_goals
      refine ⟨k, by omega, l ++ [v], s4, by rw [← hargs]; simp [Syn.declL, ho, hy], by omega, hi4, by simp; omega, H1.next + 1, ⟨rfl, by simp⟩, by simp [vasCells_append, vasCells, vaCells], by omega, ?_, ?_⟩
      · unfold PAt
        simp [hp2, hp3, hpb]
      · intro x y hxp hxy
        have := old x y hxy
        have k1 : x ≠ H1.next := by omega
        have k2 : x ≠ H1.next + 1 := by omega
        have k3 : x ≠ b := by omega
        simp [hxp, k1, k2, k3, hkeep x y hxp hxy]
  · have ho' : Syn.is W s' [44] = false := by simpa using ho
    simp [Syn.take, ho', t0, t3]
    refine does_use (p_want hW (W := W) (s := s') (by unfold PAt; simp [hp2]) hi' [[58]] H1.next 1 false (by simp) hq2 (by simp)) ?_
    rintro _ H2 ⟨rfl, rfl⟩
    have hw1' : Syn.want W s' [[58]] = Syn.want1 W s' [58] := rfl
    rw [hw1']
    obtain ⟨s3, hs3⟩ : ∃ s3, s3 = Syn.want1 W s' [58] := ⟨_, rfl⟩
    have hi3 : s3.i < W.length := by rw [hs3]; exact want1_ok hW hi' _
    have hdec : Syn.decl W s = (if Syn.is W s3 [98, 111, 111, 108] then (l.map (setK 1), { s3 with i := s3.i + 1 }) else if Syn.is W s3 [105, 110, 116] then (l.map (setK 2), { s3 with i := s3.i + 1 }) else (l.map (setK 0), Syn.fail W 7 s3)) := by
      simp only [Syn.decl, hx]
      rw [← hargs]
      simp only [Syn.declL, ho', Bool.false_eq_true, if_false, ← hs3]
      rfl
    rw [← hs3]
    simp [t0, t3, hp2, hq2]
    refine does_use (p_take hW (W := W) (s := s3) (by unfold PAt; simp [hp2]) hi3 [98, 111, 111, 108]) ?_
    rintro _ H2 ⟨rfl, rfl⟩
    by_cases hB : Syn.is W s3 [98, 111, 111, 108] = true
    · have hdec' : Syn.decl W s = (l.map (setK 1), { s3 with i := s3.i + 1 }) := by rw [hdec, if_pos hB]
      simp [Syn.take, hB, t0, t3]
      refine aws_loopw (fun m T' H' => ∃ a c, l = a ++ c ∧ m = c.length ∧ T' 0 = .ptr p 0 ∧ T' 3 = .sl b 0 5 l.length l.length opn ∧ T' 4 = .int .i64 1 ∧ T' 28 = .int .i64 l.length ∧ T' 29 = .int .i64 a.length ∧
        H'.get b = some (.cells (vasCells (a.map (setK 1) ++ c))) ∧ H'.get p = some (.cells (stCells W ({ s3 with i := s3.i + 1 }))) ∧ (∀ x y, x ≠ p → H.get x = some y → H'.get x = some y)) l.length ⟨[], l, rfl, rfl, by simp [t0], by simp [t3], by simp, by simp, by simp, by simp [hb, hpb, hqb, n1, n3], by simp [hp2], fun x y hxp hxy => ?_⟩ ?_
      · have := old x y hxy
        have k1 : x ≠ H1.next := by omega
        simp [hxp, k1, hkeep x y hxp hxy]
      clear t0 t3
      rintro m T H2 ⟨a, c, hac, rfl, t0, t3, t4, t28, t29, hb2, hP2, hkeep2⟩ hw2 _
      have hlen : a.length + c.length = l.length := by rw [hac]; simp
      cases c with
      | nil =>
        have ha : a.length = l.length := by simpa using hlen
        rw [List.append_nil] at hac
        subst hac
        simp [t0, t3, t4, t28, t29]
        rw [hdec']
        refine ⟨⟨b, opn, by simp, hbn, by simpa using hb2⟩, hP2, hkeep2⟩
      | cons v c =>
        simp only [List.length_cons] at hlen
        have hlt : (a.length : Int) < l.length := by omega
        have hlt2 : a.length < l.length := by omega
        have hlt3 : a.length ≤ l.length := by omega
        have hwa : IntKind.i64.wrap ((a.length : Int) + 1) = a.length + 1 := IntWalk.i64_in _ (by omega)
        have hcl : (vasCells (a.map (setK 1) ++ v :: c)).length = l.length * 5 := by rw [vasCells_len]; simp; omega
        have hb3 : a.length * 5 + 1 + 1 ≤ l.length * 5 := by omega
        have hput := vas_put (a.map (setK 1)) c v 1
        rw [List.length_map] at hput
        simp [t0, t3, t4, t28, t29, hlt, hlt2, hlt3, hb2, hcl, hb3, hpb, hqb, hwa]
        refine ⟨c.length, by omega, a ++ [v], c, by rw [hac]; simp, rfl, by simp, by simpa using hput, hP2, fun x y hxp hxy => ?_⟩
        have := old x y hxy
        have k1 : x ≠ b := by omega
        simp [k1, hkeep2 x y hxp hxy]
    · have hB' : Syn.is W s3 [98, 111, 111, 108] = false := by simpa using hB
      simp [Syn.take, hB', t0, t3]
      refine does_use (p_take hW (W := W) (s := s3) (by unfold PAt; simp [hp2]) hi3 [105, 110, 116]) ?_
      rintro _ H2 ⟨rfl, rfl⟩
      by_cases hI : Syn.is W s3 [105, 110, 116] = true
      · have hdec' : Syn.decl W s = (l.map (setK 2), { s3 with i := s3.i + 1 }) := by rw [hdec, if_neg hB, if_pos hI]
        simp [Syn.take, hI, t0, t3]
        refine aws_loopw (fun m T' H' => ∃ a c, l = a ++ c ∧ m = c.length ∧ T' 0 = .ptr p 0 ∧ T' 3 = .sl b 0 5 l.length l.length opn ∧ T' 4 = .int .i64 2 ∧ T' 28 = .int .i64 l.length ∧ T' 29 = .int .i64 a.length ∧
          H'.get b = some (.cells (vasCells (a.map (setK 2) ++ c))) ∧ H'.get p = some (.cells (stCells W ({ s3 with i := s3.i + 1 }))) ∧ (∀ x y, x ≠ p → H.get x = some y → H'.get x = some y)) l.length ⟨[], l, rfl, rfl, by simp [t0], by simp [t3], by simp, by simp, by simp, by simp [hb, hpb, hqb, n1, n3], by simp [hp2], fun x y hxp hxy => ?_⟩ ?_
        · have := old x y hxy
          have k1 : x ≠ H1.next := by omega
          simp [hxp, k1, hkeep x y hxp hxy]
        clear t0 t3
        rintro m T H2 ⟨a, c, hac, rfl, t0, t3, t4, t28, t29, hb2, hP2, hkeep2⟩ hw2 _
        have hlen : a.length + c.length = l.length := by rw [hac]; simp
        cases c with
        | nil =>
          have ha : a.length = l.length := by simpa using hlen
          rw [List.append_nil] at hac
          subst hac
          simp [t0, t3, t4, t28, t29]
          rw [hdec']
          refine ⟨⟨b, opn, by simp, hbn, by simpa using hb2⟩, hP2, hkeep2⟩
        | cons v c =>
          simp only [List.length_cons] at hlen
          have hlt : (a.length : Int) < l.length := by omega
          have hlt2 : a.length < l.length := by omega
          have hlt3 : a.length ≤ l.length := by omega
          have hwa : IntKind.i64.wrap ((a.length : Int) + 1) = a.length + 1 := IntWalk.i64_in _ (by omega)
          have hcl : (vasCells (a.map (setK 2) ++ v :: c)).length = l.length * 5 := by rw [vasCells_len]; simp; omega
          have hb3 : a.length * 5 + 1 + 1 ≤ l.length * 5 := by omega
          have hput := vas_put (a.map (setK 2)) c v 2
          rw [List.length_map] at hput
          simp [t0, t3, t4, t28, t29, hlt, hlt2, hlt3, hb2, hcl, hb3, hpb, hqb, hwa]
          refine ⟨c.length, by omega, a ++ [v], c, by rw [hac]; simp, rfl, by simp, by simpa using hput, hP2, fun x y hxp hxy => ?_⟩
          have := old x y hxy
          have k1 : x ≠ b := by omega
          simp [k1, hkeep2 x y hxp hxy]
      · have hI' : Syn.is W s3 [105, 110, 116] = false := by simpa using hI
        have hdec' : Syn.decl W s = (l.map (setK 0), Syn.fail W 7 s3) := by rw [hdec, if_neg hB, if_neg hI]
        simp [Syn.take, hI', t0, t3]
        refine does_use (p_fail (W := W) (s := s3) (by unfold PAt; simp [hp2]) hi3 7) ?_
        rintro _ H2 ⟨rfl, rfl⟩
        simp [t0, t3]
        refine aws_loopw (fun m T' H' => ∃ a c, l = a ++ c ∧ m = c.length ∧ T' 0 = .ptr p 0 ∧ T' 3 = .sl b 0 5 l.length l.length opn ∧ T' 4 = .int .i64 0 ∧ T' 28 = .int .i64 l.length ∧ T' 29 = .int .i64 a.length ∧
          H'.get b = some (.cells (vasCells (a.map (setK 0) ++ c))) ∧ H'.get p = some (.cells (stCells W (Syn.fail W 7 s3))) ∧ (∀ x y, x ≠ p → H.get x = some y → H'.get x = some y)) l.length ⟨[], l, rfl, rfl, by simp [t0], by simp [t3], by simp, by simp, by simp, by simp [hb, hpb, hqb, n1, n3], by simp [hp2], fun x y hxp hxy => ?_⟩ ?_
        · have := old x y hxy
          have k1 : x ≠ H1.next := by omega
          simp [hxp, k1, hkeep x y hxp hxy]
        clear t0 t3
        rintro m T H2 ⟨a, c, hac, rfl, t0, t3, t4, t28, t29, hb2, hP2, hkeep2⟩ hw2 _
        have hlen : a.length + c.length = l.length := by rw [hac]; simp
        cases c with
        | nil =>
          have ha : a.length = l.length := by simpa using hlen
          rw [List.append_nil] at hac
          subst hac
          simp [t0, t3, t4, t28, t29]
          rw [hdec']
          refine ⟨⟨b, opn, by simp, hbn, by simpa using hb2⟩, hP2, hkeep2⟩
        | cons v c =>
          simp only [List.length_cons] at hlen
          have hlt : (a.length : Int) < l.length := by omega
          have hlt2 : a.length < l.length := by omega
          have hlt3 : a.length ≤ l.length := by omega
          have hwa : IntKind.i64.wrap ((a.length : Int) + 1) = a.length + 1 := IntWalk.i64_in _ (by omega)
          have hcl : (vasCells (a.map (setK 0) ++ v :: c)).length = l.length * 5 := by rw [vasCells_len]; simp; omega
          have hb3 : a.length * 5 + 1 + 1 ≤ l.length * 5 := by omega
          have hput := vas_put (a.map (setK 0)) c v 0
          rw [List.length_map] at hput
          simp [t0, t3, t4, t28, t29, hlt, hlt2, hlt3, hb2, hcl, hb3, hpb, hqb, hwa]
          refine ⟨c.length, by omega, a ++ [v], c, by rw [hac]; simp, rfl, by simp, by simpa using hput, hP2, fun x y hxp hxy => ?_⟩
          have := old x y hxy
          have k1 : x ≠ b := by omega
          simp [k1, hkeep2 x y hxp hxy]
end Go.Proofs.YthmnpnbcdoemfaaGreatDoor

namespace Go.Proofs.YthmnpnbcdoemfaaGreatDoor
open Go Go.Abs Go.Lex
set_option linter.unusedSimpArgs false
variable {G : Nat → Option AV}
theorem declL_ne {W : Syn.Ws} : ∀ (m : Nat) (l : List Syn.Va) (s : Syn.St), l ≠ [] → (Syn.declL W m l s).1 ≠ [] ∧ (Syn.declL W m l s).1.length ≤ l.length + m
  | 0, l, s, h => ⟨h, by simp [Syn.declL]⟩
  | m + 1, l, s, h => by
    unfold Syn.declL
    split
    · rcases hx : Syn.declared W { s with i := s.i + 1 } with ⟨v, s2⟩
      simp only
      obtain ⟨h1, h2⟩ := declL_ne m (l ++ [v]) s2 (by simp)
      refine ⟨h1, ?_⟩
      simp at h2
      omega
    · exact ⟨h, by simp only; omega⟩
theorem decl_ne (W : Syn.Ws) (s : Syn.St) : (Syn.decl W s).1 ≠ [] ∧ (Syn.decl W s).1.length ≤ W.length + 2 := by
  unfold Syn.decl
  rcases hx : Syn.declared W s with ⟨v, s1⟩
  simp only
  obtain ⟨h1, h2⟩ := declL_ne (W := W) (W.length + 1) [v] s1 (by simp)
  rcases hy : Syn.declL W (W.length + 1) [v] s1 with ⟨l, s2⟩
  rw [hy] at h1 h2
  simp only at h1 h2 ⊢
  simp at h2
  split
  · exact ⟨by simpa using h1, by simp; omega⟩
  split
  · exact ⟨by simpa using h1, by simp; omega⟩
  · exact ⟨by simpa using h1, by simp; omega⟩
def VsR (n : Nat) (H' : AHeap) (r : AV) (l : List Syn.Va) : Prop := (l = [] ∧ r = .nilsl) ∨ l ≠ [] ∧ ∃ b op, r = .sl b 0 5 l.length l.length op ∧ n ≤ b ∧ H'.get b = some (.cells (vasCells l))
def DeclsR (H : AHeap) (p : Nat) (W : Syn.Ws) (x : List Syn.Va × Syn.St) (r : AV) (H' : AHeap) : Prop :=
  VsR H.next H' r x.1 ∧ H'.get p = some (.cells (stCells W x.2)) ∧ ∀ j y, j ≠ p → H.get j = some y → H'.get j = some y
theorem declsL_kp {W : Syn.Ws} (hW : WsOk W) : ∀ (m : Nat) (l : List Syn.Va) (s : Syn.St), Kp W s (Syn.declsL W m l s).2
  | 0, l, s => Kp.refl s
  | m + 1, l, s => by
    unfold Syn.declsL
    split
    · rename_i ho
      have h1 := kp_succ hW (is_kind ho).2
      have h2 := kp_decl hW { s with i := s.i + 1 }
      rcases hx : Syn.decl W { s with i := s.i + 1 } with ⟨v, s2⟩
      rw [hx] at h2
      simp only at h2 ⊢
      exact h1.trans (h2.trans (declsL_kp hW m _ _))
    · exact Kp.refl s
theorem kp_decls {W : Syn.Ws} (hW : WsOk W) (s : Syn.St) : Kp W s (Syn.decls W s).2 := by
  unfold Syn.decls
  split
  · exact Kp.refl s
  · have h1 := kp_decl hW s
    rcases hx : Syn.decl W s with ⟨l, s1⟩
    rw [hx] at h1
    simp only at h1 ⊢
    exact h1.trans (declsL_kp hW _ _ _)
set_option maxHeartbeats 8000000 in
set_option maxRecDepth 100000 in
theorem p_decls {W : Syn.Ws} (hW : WsOk W) {s : Syn.St} {p : Nat} {H : AHeap} (h : PAt H p W s) (hi : s.i < W.length) : Does Tryz.prog G 56 [.ptr p 0] H (DeclsR H p W (Syn.decls W s)) := by
  refine Does.wf Tryz.call56 fun hw _ => ?_
  have old : ∀ j x, H.get j = some x → j < H.next := fun j x hj => next_lt hw hj
  refine does_f Tryz.call56 Tryz.func56 rfl (by simp [Tryz.f56]) ?_
  have hpl := old _ _ h
  simp
  refine does_use (p_word h hi) ?_
  rintro _ H1 ⟨rfl, rfl⟩
  by_cases hk : (Syn.at_ W s).2.kind = 1
  · have hk' : ((((Syn.at_ W s).2.kind : Nat) : Int) != 1) = false := by simp; omega
    simp [wdCells, hk']
    refine does_usew (p_decl hW h hi) ?_
    rintro r H2 ⟨⟨b0, op0, hr, hb0, hg0⟩, hP2, hk2⟩ hw2 _
    have hi2 := (kp_decl hW s hi).1
    obtain ⟨hne, hlen0⟩ := decl_ne W s
    rcases hx : Syn.decl W s with ⟨l0, s1⟩
    rw [hx] at hr hg0 hP2 hi2 hne hlen0
    simp only at hr hg0 hP2 hi2 hne hlen0
    subst hr
    simp
    have hsm := hW.small
    obtain ⟨K, hK⟩ : ∃ K, K = W.length + 2 := ⟨_, rfl⟩
    have hK2 : K ≤ 20002 := by omega
    refine aws_loopw (fun m T' H' => ∃ l s' b opn, l ≠ [] ∧ Syn.declsL W m l s' = Syn.declsL W (W.length + 1) l0 s1 ∧ mu W s' < m ∧ s'.i < W.length ∧ l.length + m * K ≤ K + (W.length + 1) * K ∧
      T' 0 = .ptr p 0 ∧ T' 3 = .sl b 0 5 l.length l.length opn ∧ H'.get b = some (.cells (vasCells l)) ∧ H1.next ≤ b ∧ PAt H' p W s' ∧ (∀ x y, x ≠ p → H1.get x = some y → H'.get x = some y)) (W.length + 1) ?_ ?_
    · refine ⟨_, _, b0, op0, hne, rfl, ?_, hi2, by omega, by simp, by simp, hg0, hb0, hP2, hk2⟩
      unfold mu; split <;> omega
    rintro m T H3 ⟨l, s', b, opn, hln, hargs, hmu, hi', hlm, t0, t3, hb, hbn, hP, hkeep⟩ hw1 _
    have hN := next_lt hw1 hb
    have hpb : p ≠ b := by omega
    have hqb := Ne.symm hpb
    obtain ⟨k, rfl⟩ : ∃ k, m = k + 1 := ⟨m - 1, by omega⟩
    simp [t0, t3]
    refine does_use (p_take hW hP hi' [59]) ?_
    rintro _ H4 ⟨rfl, rfl⟩
    by_cases ho : Syn.is W s' [59] = true
    · have hi4 := ok_succ hW hi' (is_kind ho).2
      have hm4 : mu W { s' with i := s'.i + 1 } < mu W s' := by
        have h0 := (is_kind ho).1
        unfold mu
        simp only [h0, if_true]
        omega
      simp [Syn.take, ho, t0, t3]
      refine does_usew (p_decl hW (W := W) (s := { s' with i := s'.i + 1 }) (PAt.set _) hi4) ?_
      rintro r H5 ⟨⟨b2, op2, hr, hb2, hg2⟩, hP5, hk5⟩ hw5 _
      obtain ⟨hi5, hm5⟩ := kp_decl hW { s' with i := s'.i + 1 } hi4
      obtain ⟨hne2, hlen2⟩ := decl_ne W { s' with i := s'.i + 1 }
      rcases hy : Syn.decl W { s' with i := s'.i + 1 } with ⟨l2, s4⟩
      rw [hy] at hr hg2 hP5 hi5 hm5 hne2 hlen2
      simp only at hr hg2 hP5 hi5 hm5 hne2 hlen2
      subst hr
      have hb5 : H5.get b = some (.cells (vasCells l)) := hk5 b _ hqb (by simp [hqb, hb])
      have hN5 := next_lt hw5 hb5
      have hN6 := next_lt hw5 hg2
      have hP6 := next_lt hw5 hP5
      simp at hb2
      have q1 : b ≠ H5.next := by omega
      have q2 : b2 ≠ H5.next := by omega
      have q3 : p ≠ H5.next := by omega
      have q4 : b ≠ b2 := by omega
      have hl2 : l2.length ≠ 0 := by simpa using hne2
      have hgrow : ¬ (l.length + l2.length ≤ l.length) := by omega
      have hmulm : (k + 1) * K = k * K + K := Nat.succ_mul k K
      have hbig : (W.length + 1) * K ≤ 20002 * 20002 := Nat.mul_le_mul (by omega) hK2
      have g1 : (l.length + l2.length) * 56 ≤ 140737488355328 := by omega
      have g2 : l.length + l2.length ≤ 4611686018427387904 := by omega
      have g3 : List.take (l.length * 5) (vasCells l) = vasCells l := by rw [List.take_of_length_le]; rw [vasCells_len]; omega
      have g4 : List.take (l2.length * 5) (vasCells l2) = vasCells l2 := by rw [List.take_of_length_le]; rw [vasCells_len]; omega
      have g5 : (vasCells l).length = l.length * 5 := vasCells_len l
      have g6 : (vasCells l2).length = l2.length * 5 := vasCells_len l2
      have g7 := vasCells_scalar l2
      cases opn <;> simp [t0, t3, hb5, hg2, hgrow, g1, g2, g3, g4, g5, g6, if_pos g7, hl2]
      all_goals
        refine ⟨k, by omega, l ++ l2, by simp [hln], s4, by rw [← hargs]; simp [Syn.declsL, ho, hy], by omega, hi5, by simp; omega, H5.next, ⟨rfl, by simp⟩, by simp [vasCells_append], by omega, ?_, ?_⟩
        · unfold PAt
          simp [q3, hpb, hP5]
        · intro x y hxp hxy
          have := old x y hxy
          have k1 : x ≠ H5.next := by omega
          have k2 : x ≠ b := by omega
          simp [k1, k2, hk5 x y hxp (by simp [hxp, hkeep x y hxp hxy])]
    · have ho' : Syn.is W s' [59] = false := by simpa using ho
      have hdec : Syn.decls W s = (l, s') := by
        simp only [Syn.decls, Syn.kind, hk, hx, ne_eq, not_true_eq_false, if_false]
        rw [← hargs]
        simp [Syn.declsL, ho']
      simp [Syn.take, ho', t0, t3]
      rw [hdec]
      refine ⟨.inr ⟨hln, b, opn, by simp, hbn, by simp [hqb, hb]⟩, by simp, fun x y hxp hxy => ?_⟩
      simp [hxp, hkeep x y hxp hxy]
  · have hk' : ((((Syn.at_ W s).2.kind : Nat) : Int) != 1) = true := by simp; omega
    have hdec : Syn.decls W s = ([], s) := by simp [Syn.decls, Syn.kind, hk]
    simp [wdCells, hk']
    rw [hdec]
    exact ⟨.inl ⟨rfl, rfl⟩, h, fun _ _ _ h => h⟩
def vsV (l : List Syn.Va) : AV := if l.isEmpty then .nilsl else .vsl (vasCells l) l.length
@[simp] theorem vsV_scalar (l : List Syn.Va) : (vsV l).scalar = true := by unfold vsV; split <;> rfl
@[simp] theorem vsV_cells (l : List Syn.Va) : (vsV l).cells = [vsV l] := by unfold vsV; split <;> rfl
theorem vsV_lt (n : Nat) (l : List Syn.Va) : (vsV l).idLt n = true := by
  unfold vsV
  split
  · rfl
  · simpa [AV.idLt] using vasCells_lt n l
theorem VsR.res {n : Nat} {H' : AHeap} {r : AV} {l : List Syn.Va} (h : VsR n H' r l) : ResV H'.get n r (vsV l) := by
  rcases h with ⟨rfl, rfl⟩ | ⟨hl, b, op, rfl, hb, hg⟩
  · exact .old rfl
  · have : vsV l = .vsl (vasCells l) l.length := by unfold vsV; rw [if_neg (by simpa using hl)]
    rw [this]
    refine .sl hb hg ?_
    rw [List.drop_zero, List.take_of_length_le (by rw [vasCells_len]; omega)]
    exact ResL.old (vasCells_lt _ _)
theorem p_decls' {W : Syn.Ws} (hW : WsOk W) {s : Syn.St} {p : Nat} {H : AHeap} (h : PAt H p W s) (hi : s.i < W.length) : Does Tryz.prog G 56 [.ptr p 0] H fun r H' => r = vsV (Syn.decls W s).1 ∧ H' = H.set p (.cells (stCells W (Syn.decls W s).2)) := by
  refine Does.deep (p_decls hW h hi) ?_
  rintro hw ha r H1 ⟨h1, h2, h3⟩
  exact ⟨_, H.set p (.cells (stCells W (Syn.decls W s).2)), h1.res, rfl, set_back hw h h2 h3, rfl, rfl⟩
end Go.Proofs.YthmnpnbcdoemfaaGreatDoor

namespace Go.Proofs.YthmnpnbcdoemfaaGreatDoor
open Go Go.Abs Go.Lex
set_option linter.unusedSimpArgs false
variable {G : Nat → Option AV}
def setOn (nm : Bs) (b : Bool) (v : Syn.Va) : Syn.Va := { v with on := nm, neg := b }
theorem kp_local {W : Syn.Ws} (hW : WsOk W) (s : Syn.St) : Kp W s (Syn.local_ W s).2 := by
  unfold Syn.local_
  have h1 := kp_decl hW s
  rcases hx : Syn.decl W s with ⟨l, s1⟩
  rw [hx] at h1
  simp only at h1 ⊢
  split
  · rename_i ho
    have h2 := kp_succ hW (is_kind ho).2
    have h3 := kp_take hW { s1 with i := s1.i + 1 } [110, 111, 116]
    rcases hy : Syn.take W { s1 with i := s1.i + 1 } [110, 111, 116] with ⟨b, s2⟩
    rw [hy] at h3
    simp only at h3 ⊢
    have h4 := kp_name hW s2
    rcases hz : Syn.name W s2 with ⟨nm, s3⟩
    rw [hz] at h4
    simp only at h4 ⊢
    exact h1.trans (h2.trans (h3.trans h4))
  · exact h1
theorem local_ne (W : Syn.Ws) (s : Syn.St) : (Syn.local_ W s).1 ≠ [] ∧ (Syn.local_ W s).1.length ≤ W.length + 2 := by
  unfold Syn.local_
  have h1 := decl_ne W s
  rcases hx : Syn.decl W s with ⟨l, s1⟩
  rw [hx] at h1
  simp only at h1 ⊢
  split
  · rcases hy : Syn.take W { s1 with i := s1.i + 1 } [110, 111, 116] with ⟨b, s2⟩
    simp only
    rcases hz : Syn.name W s2 with ⟨nm, s3⟩
    simp only
    exact ⟨by simpa using h1.1, by simpa using h1.2⟩
  · exact h1
theorem put_at (P R : List AV) (x0 x1 x2 x3 y z : AV) (m : Nat) (hm : P.length = m) :
    List.take (m + 3) (List.take (m + 2) (P ++ x0 :: x1 :: x2 :: x3 :: R) ++ y :: List.drop (m + 2 + 1) (P ++ x0 :: x1 :: x2 :: x3 :: R)) ++ z :: List.drop (m + 3 + 1) (List.take (m + 2) (P ++ x0 :: x1 :: x2 :: x3 :: R) ++ y :: List.drop (m + 2 + 1) (P ++ x0 :: x1 :: x2 :: x3 :: R)) = P ++ x0 :: x1 :: y :: z :: R := by
  subst hm
  have e1 : List.take (P.length + 2) (P ++ x0 :: x1 :: x2 :: x3 :: R) = P ++ [x0, x1] := by rw [List.take_append, List.take_of_length_le (by omega)]; simp
  have e2 : List.drop (P.length + 2 + 1) (P ++ x0 :: x1 :: x2 :: x3 :: R) = x3 :: R := by rw [List.drop_append, List.drop_of_length_le (by omega)]; simp [show P.length + 2 + 1 - P.length = 3 by omega]
  rw [e1, e2]
  have e3 : P ++ [x0, x1] ++ y :: x3 :: R = P ++ x0 :: x1 :: y :: x3 :: R := by simp
  rw [e3]
  have e4 : List.take (P.length + 3) (P ++ x0 :: x1 :: y :: x3 :: R) = P ++ [x0, x1, y] := by rw [List.take_append, List.take_of_length_le (by omega)]; simp
  have e5 : List.drop (P.length + 3 + 1) (P ++ x0 :: x1 :: y :: x3 :: R) = R := by rw [List.drop_append, List.drop_of_length_le (by omega)]; simp [show P.length + 3 + 1 - P.length = 4 by omega]
  rw [e4, e5]
  simp
theorem vas_put2 (a c : List Syn.Va) (v : Syn.Va) (nm : Bs) (b : Bool) (n : Nat) (hn : n = a.length) :
    List.take (n * 5 + 3) (List.take (n * 5 + 2) (vasCells (a ++ v :: c)) ++ .str nm :: List.drop (n * 5 + 2 + 1) (vasCells (a ++ v :: c))) ++ .bool b :: List.drop (n * 5 + 3 + 1) (List.take (n * 5 + 2) (vasCells (a ++ v :: c)) ++ .str nm :: List.drop (n * 5 + 2 + 1) (vasCells (a ++ v :: c))) = vasCells ((a ++ [setOn nm b v]) ++ c) := by
  have h0 : vasCells (a ++ v :: c) = vasCells a ++ .str v.name :: .int .i64 v.kind :: .str v.on :: .bool v.neg :: (.int .i64 v.pos :: vasCells c) := by
    rw [vasCells_append]; simp [vasCells, vaCells]
  have h1 := put_at (vasCells a) (.int .i64 v.pos :: vasCells c) (.str v.name) (.int .i64 v.kind) (.str v.on) (.bool v.neg) (.str nm) (.bool b) (n * 5) (by rw [vasCells_len, hn])
  rw [h0, h1]
  simp [vasCells_append, vasCells, vaCells, setOn]
set_option maxHeartbeats 8000000 in
set_option maxRecDepth 100000 in
theorem p_local {W : Syn.Ws} (hW : WsOk W) {s : Syn.St} {p : Nat} {H : AHeap} (h : PAt H p W s) (hi : s.i < W.length) : Does Tryz.prog G 113 [.ptr p 0] H (DeclR H p W (Syn.local_ W s)) := by
  refine Does.wf Tryz.call113 fun hw _ => ?_
  have old : ∀ j x, H.get j = some x → j < H.next := fun j x hj => next_lt hw hj
  refine does_f Tryz.call113 Tryz.func113 rfl (by simp [Tryz.f113]) ?_
  have hpl := old _ _ h
  have hsm := hW.small
  simp
  refine does_usew (p_decl hW h hi) ?_
  rintro r H2 ⟨⟨b, opn, hr, hbn, hb⟩, hP2, hkeep⟩ hw2 _
  have hi2 := (kp_decl hW s hi).1
  obtain ⟨hne, hlen0⟩ := decl_ne W s
  rcases hx : Syn.decl W s with ⟨l, s1⟩
  rw [hx] at hr hb hP2 hi2 hne hlen0
  simp only at hr hb hP2 hi2 hne hlen0
  subst hr
  have hpb : p ≠ b := by omega
  have hqb := Ne.symm hpb
  simp
  refine does_use (p_take hW hP2 hi2 [119, 104, 101, 110]) ?_
  rintro _ H3 ⟨rfl, rfl⟩
  by_cases ho : Syn.is W s1 [119, 104, 101, 110] = true
  · have hi3 : s1.i + 1 < W.length := ok_succ hW hi2 (is_kind ho).2
    simp [Syn.take, ho]
    refine does_use (p_take hW (W := W) (s := { s1 with i := s1.i + 1 }) (PAt.set _) hi3 [110, 111, 116]) ?_
    rintro _ H4 ⟨rfl, rfl⟩
    have hi4 := take_ok hW (W := W) (s := { s1 with i := s1.i + 1 }) hi3 [110, 111, 116]
    rcases hy : Syn.take W { s1 with i := s1.i + 1 } [110, 111, 116] with ⟨bn, s2⟩
    rw [hy] at hi4
    simp only at hi4
    simp
    refine does_use (p_name hW (W := W) (s := s2) (PAt.set _) hi4) ?_
    rintro _ H5 ⟨rfl, rfl⟩
    rcases hz : Syn.name W s2 with ⟨nm, s3⟩
    have hloc : Syn.local_ W s = (l.map (setOn nm bn), s3) := by
      simp only [Syn.local_, hx, ho, if_true, hy, hz]
      rfl
    simp
    refine aws_loopw (fun m T' H' => ∃ a c, l = a ++ c ∧ m = c.length ∧ T' 0 = .ptr p 0 ∧ T' 3 = .sl b 0 5 l.length l.length opn ∧ T' 4 = .bool bn ∧ T' 5 = .str nm ∧ T' 18 = .int .i64 l.length ∧ T' 19 = .int .i64 a.length ∧
      H'.get b = some (.cells (vasCells (a.map (setOn nm bn) ++ c))) ∧ H'.get p = some (.cells (stCells W s3)) ∧ (∀ x y, x ≠ p → H.get x = some y → H'.get x = some y)) l.length ⟨[], l, rfl, rfl, by simp, by simp, by simp, by simp, by simp, by simp, by simp [hb, hqb], by simp, fun x y hxp hxy => ?_⟩ ?_
    · simp [hxp, hkeep x y hxp hxy]
    rintro m T H2 ⟨a, c, hac, rfl, t0, t3, t4, t5, t18, t19, hb2, hP3, hkeep2⟩ hw3 _
    have hlen : a.length + c.length = l.length := by rw [hac]; simp
    cases c with
    | nil =>
      have ha : a.length = l.length := by simpa using hlen
      rw [List.append_nil] at hac
      subst hac
      simp [t0, t3, t18, t19]
      rw [hloc]
      refine ⟨⟨b, opn, by simp, hbn, by simpa using hb2⟩, hP3, hkeep2⟩
    | cons v c =>
      simp only [List.length_cons] at hlen
      have hlt : (a.length : Int) < l.length := by omega
      have hlt2 : a.length < l.length := by omega
      have hlt3 : a.length ≤ l.length := by omega
      have hwa : IntKind.i64.wrap ((a.length : Int) + 1) = a.length + 1 := IntWalk.i64_in _ (by omega)
      have hcl : (vasCells (a.map (setOn nm bn) ++ v :: c)).length = l.length * 5 := by rw [vasCells_len]; simp; omega
      have hb3 : a.length * 5 + 2 + 1 ≤ l.length * 5 := by omega
      have hb4 : a.length * 5 + 3 + 1 ≤ l.length * 5 := by omega
      have hb5 : a.length * 5 + 3 + 1 ≤ min (a.length * 5 + 2) (l.length * 5) + (l.length * 5 - (a.length * 5 + 2 + 1) + 1) := by omega
      have hput := vas_put2 (a.map (setOn nm bn)) c v nm bn a.length (by simp)
      simp [t0, t3, t4, t5, t18, t19, hlt, hlt2, hlt3, hb2, hcl, hb3, hb4, hb5, hpb, hqb, hwa]
      refine ⟨c.length, by omega, a ++ [v], c, by rw [hac]; simp, rfl, by simp, by simpa using hput, hP3, fun x y hxp hxy => ?_⟩
      have := old x y hxy
      have k1 : x ≠ b := by omega
      simp [k1, hkeep2 x y hxp hxy]
  · have ho' : Syn.is W s1 [119, 104, 101, 110] = false := by simpa using ho
    have hloc : Syn.local_ W s = (l, s1) := by simp only [Syn.local_, hx, ho', Bool.false_eq_true, if_false]
    simp [Syn.take, ho']
    rw [hloc]
    exact ⟨⟨b, opn, by simp, hbn, by simp [hqb, hb]⟩, by simp, fun x y hxp hxy => by simp [hxp, hkeep x y hxp hxy]⟩
theorem localsL_kp {W : Syn.Ws} (hW : WsOk W) : ∀ (m : Nat) (l : List Syn.Va) (s : Syn.St), Kp W s (Syn.localsL W m l s).2
  | 0, l, s => Kp.refl s
  | m + 1, l, s => by
    unfold Syn.localsL
    split
    · have h2 := kp_local hW s
      rcases hx : Syn.local_ W s with ⟨v, s2⟩
      rw [hx] at h2
      simp only at h2 ⊢
      exact h2.trans ((kp_want1 hW s2 [59]).trans (localsL_kp hW m _ _))
    · exact Kp.refl s
theorem kp_locals {W : Syn.Ws} (hW : WsOk W) (s : Syn.St) : Kp W s (Syn.locals_ W s).2 := by
  unfold Syn.locals_
  have key : ∀ (l : List Syn.Va) (s1 : Syn.St), Kp W s s1 → Kp W s (Syn.localsL W (W.length + 1) l (Syn.want1 W s1 [59])).2 := fun l s1 h => h.trans ((kp_want1 hW s1 [59]).trans (localsL_kp hW _ _ _))
  by_cases hk : Syn.kind W s = 1
  · rw [if_pos hk]
    have h1 := kp_local hW s
    rcases hx : Syn.local_ W s with ⟨l, s1⟩
    rw [hx] at h1
    exact key l s1 h1
  · rw [if_neg hk]
    exact key [] s (Kp.refl s)
end Go.Proofs.YthmnpnbcdoemfaaGreatDoor

namespace Go.Proofs.YthmnpnbcdoemfaaGreatDoor
open Go Go.Abs Go.Lex
set_option linter.unusedSimpArgs false
variable {G : Nat → Option AV}
theorem declared_lt {W : Syn.Ws} {s : Syn.St} (he : s.err = 0) (hk : (Syn.at_ W s).2.kind = 1) (hi : s.i < W.length) : mu W (Syn.declared W s).2 < mu W s := by
  have h0 : mu W s = W.length - s.i := by unfold mu; rw [if_pos he]
  unfold Syn.declared
  simp only [hk, if_true]
  split
  · have : (Syn.fail W 2 { s with names := Syn.wrap (s.names + 1) }).err = 2 := by unfold Syn.fail; simp [he]
    have hk2 : Syn.kind W (Syn.fail W 2 { s with names := Syn.wrap (s.names + 1) }) = 1 := by
      unfold Syn.fail
      simp only [he, if_true]
      exact hk
    unfold Syn.name
    rw [if_pos hk2]
    simp only [this, show (2 : Nat) ≠ 0 by omega, if_false]
    unfold mu
    rw [if_neg (by rw [this]; omega), if_pos he]
    omega
  · have hk2 : Syn.kind W { s with names := Syn.wrap (s.names + 1) } = 1 := hk
    unfold Syn.name
    rw [if_pos hk2]
    simp only [he, if_true]
    unfold mu
    simp only [he, if_true]
    omega
theorem decl_lt {W : Syn.Ws} (hW : WsOk W) {s : Syn.St} (he : s.err = 0) (hk : (Syn.at_ W s).2.kind = 1) (hi : s.i < W.length) : mu W (Syn.decl W s).2 < mu W s := by
  have h0 := declared_lt he hk hi
  have hi1 := (kp_declared hW s hi).1
  unfold Syn.decl
  rcases hx : Syn.declared W s with ⟨v, s1⟩
  rw [hx] at h0 hi1
  simp only at h0 hi1 ⊢
  have h2 := declL_kp hW (W.length + 1) [v] s1
  rcases hy : Syn.declL W (W.length + 1) [v] s1 with ⟨l, s2⟩
  rw [hy] at h2
  simp only at h2 ⊢
  have h3 := kp_want1 hW s2 [58]
  split
  · rename_i ho
    have := (h2.trans (h3.trans (kp_succ hW (is_kind ho).2)) hi1).2
    exact Nat.lt_of_le_of_lt this h0
  split
  · rename_i ho
    have := (h2.trans (h3.trans (kp_succ hW (is_kind ho).2)) hi1).2
    exact Nat.lt_of_le_of_lt this h0
  · have := (h2.trans (h3.trans (kp_fail (e := 7) (by omega) _)) hi1).2
    exact Nat.lt_of_le_of_lt this h0
theorem local_lt {W : Syn.Ws} (hW : WsOk W) {s : Syn.St} (he : s.err = 0) (hk : (Syn.at_ W s).2.kind = 1) (hi : s.i < W.length) : mu W (Syn.local_ W s).2 < mu W s := by
  have h0 := decl_lt hW he hk hi
  have hi1 := (kp_decl hW s hi).1
  unfold Syn.local_
  rcases hx : Syn.decl W s with ⟨l, s1⟩
  rw [hx] at h0 hi1
  simp only at h0 hi1 ⊢
  split
  · rename_i ho
    have h2 := kp_succ hW (is_kind ho).2
    have h3 := kp_take hW { s1 with i := s1.i + 1 } [110, 111, 116]
    rcases hy : Syn.take W { s1 with i := s1.i + 1 } [110, 111, 116] with ⟨b, s2⟩
    rw [hy] at h3
    simp only at h3 ⊢
    have h4 := kp_name hW s2
    rcases hz : Syn.name W s2 with ⟨nm, s3⟩
    rw [hz] at h4
    simp only at h4 ⊢
    exact Nat.lt_of_le_of_lt ((h2.trans (h3.trans h4)) hi1).2 h0
  · exact h0
set_option maxHeartbeats 8000000 in
set_option maxRecDepth 100000 in
theorem p_locals {W : Syn.Ws} (hW : WsOk W) {s : Syn.St} {p : Nat} {H : AHeap} (h : PAt H p W s) (hi : s.i < W.length) : Does Tryz.prog G 58 [.ptr p 0] H (DeclsR H p W (Syn.locals_ W s)) := by
  refine Does.wf Tryz.call58 fun hw _ => ?_
  have old : ∀ j x, H.get j = some x → j < H.next := fun j x hj => next_lt hw hj
  refine does_f Tryz.call58 Tryz.func58 rfl (by simp [Tryz.f58]) ?_
  have hpl := old _ _ h
  have hsm := hW.small
  obtain ⟨K, hK⟩ : ∃ K, K = W.length + 2 := ⟨_, rfl⟩
  have hK2 : K ≤ 20002 := by omega
  have hbig : (W.length + 1) * K ≤ 20002 * 20002 := Nat.mul_le_mul (by omega) hK2
  simp
  refine does_use (p_word h hi) ?_
  rintro _ H1 ⟨rfl, rfl⟩
  by_cases hk : (Syn.at_ W s).2.kind = 1
  · have hk' : ((((Syn.at_ W s).2.kind : Nat) : Int) = 1) = True := eq_true (by omega)
    simp [wdCells, hk']
    refine does_usew (p_local hW h hi) ?_
    rintro r H2 ⟨⟨b0, op0, hr, hb0, hg0⟩, hP2, hk2⟩ hw2 _
    have hi2 := (kp_local hW s hi).1
    obtain ⟨hne, hlen0⟩ := local_ne W s
    have hsp : Syn.locals_ W s = Syn.localsL W (W.length + 1) (Syn.local_ W s).1 (Syn.want1 W (Syn.local_ W s).2 [59]) := by
      have hkk : Syn.kind W s = 1 := hk
      unfold Syn.locals_
      rw [if_pos hkk]
    rcases hx : Syn.local_ W s with ⟨l0, s1⟩
    rw [hx] at hr hg0 hP2 hi2 hne hlen0 hsp
    simp only at hr hg0 hP2 hi2 hne hlen0 hsp
    subst hr
    have hN2 := next_lt hw2 hg0
    have hpN := next_lt hw2 hP2
    have hb0p : b0 ≠ p := by omega
    simp
    have hsp1 : (H2.push (.cells [.str [59]])).get p = some (.cells (stCells W s1)) := by
      have e : p ≠ H2.next := by omega
      simp [e]; exact hP2
    refine does_use (p_want hW (W := W) (s := s1) hsp1 hi2 [[59]] H2.next 1 false (by simp) (by omega) (by simp)) ?_
    rintro _ H3 ⟨rfl, rfl⟩
    have hw1' : Syn.want W s1 [[59]] = Syn.want1 W s1 [59] := rfl
    rw [hw1']
    simp
    have hi3 := want1_ok hW hi2 [59]
    refine aws_loopw (fun m T' H' => ∃ l s', Syn.localsL W m l s' = Syn.localsL W (W.length + 1) l0 (Syn.want1 W s1 [59]) ∧ mu W s' < m ∧ s'.i < W.length ∧ l.length + m * K ≤ K + (W.length + 1) * K ∧
      T' 0 = .ptr p 0 ∧ VsR H1.next H' (T' 3) l ∧ PAt H' p W s' ∧ H1.next ≤ H'.next ∧ (∀ x y, x ≠ p → H1.get x = some y → H'.get x = some y)) (W.length + 1) ?_ ?_
    · refine ⟨l0, _, rfl, ?_, hi3, by omega, by simp, ?_, by unfold PAt; simp, by simp; try omega, fun x y hxp hxy => ?_⟩
      · unfold mu; split <;> omega
      · exact .inr ⟨hne, b0, op0, by simp, hb0, by simp [Nat.ne_of_lt hN2, hb0p, hg0]⟩
      · have := old x y hxy
        have e : x ≠ H2.next := by omega
        simp [hxp, e, hk2 x y hxp hxy]
    rintro m T H4 ⟨l, s', hargs, hmu, hi', hlm, t0, hvs, hP, hnx, hkeep⟩ hw4 _
    obtain ⟨k, rfl⟩ : ∃ k, m = k + 1 := ⟨m - 1, by omega⟩
    have hmulm : (k + 1) * K = k * K + K := Nat.succ_mul k K
    have stop : ¬ (s'.err = 0 ∧ Syn.kind W s' = 1) → DeclsR H1 p W (Syn.locals_ W s) (T 3) H4 := fun hs => by
      have e : Syn.locals_ W s = (l, s') := by rw [hsp, ← hargs, Syn.localsL, if_neg hs]
      rw [e]
      exact ⟨hvs, hP, hkeep⟩
    simp [t0]
    refine does_use (p_ok hP) ?_
    rintro _ _ ⟨rfl, rfl⟩
    by_cases he : s'.err = 0
    · simp [he, t0]
      refine does_use (p_word hP hi') ?_
      rintro _ _ ⟨rfl, rfl⟩
      by_cases hk : (Syn.at_ W s').2.kind = 1
      · have hk' : ((((Syn.at_ W s').2.kind : Nat) : Int) = 1) = True := eq_true (by omega)
        simp [wdCells, hk', t0]
        refine does_usew (p_local hW hP hi') ?_
        rintro r H5 ⟨⟨b2, op2, hr, hb2, hg2⟩, hP5, hk5⟩ hw5 _
        have hi5 := (kp_local hW s' hi').1
        have hm5 := local_lt hW he hk hi'
        obtain ⟨hne2, hlen2⟩ := local_ne W s'
        rcases hy : Syn.local_ W s' with ⟨l2, s4⟩
        rw [hy] at hr hg2 hP5 hi5 hm5 hne2 hlen2
        simp only at hr hg2 hP5 hi5 hm5 hne2 hlen2
        subst hr
        have hN6 := next_lt hw5 hg2
        have hP6 := next_lt hw5 hP5
        have q3 : p ≠ H5.next := by omega
        have q5 : p ≠ H5.next + 1 := by omega
        have q6 : True := trivial
        have q3' := Ne.symm q3
        have q5' := Ne.symm q5
        have hl2 : l2.length ≠ 0 := by simpa using hne2
        have g4 : List.take (l2.length * 5) (vasCells l2) = vasCells l2 := by rw [List.take_of_length_le]; rw [vasCells_len]; omega
        have g6 : (vasCells l2).length = l2.length * 5 := vasCells_len l2
        have g7 := vasCells_scalar l2
        rcases hvs with ⟨rfl, t3⟩ | ⟨hln, b, opn, t3, hbn, hb⟩
        · have g1 : l2.length * 56 ≤ 140737488355328 := by omega
          have g2 : l2.length ≤ 4611686018427387904 := by omega
          simp [t0, t3, hg2, g1, g2, g4, g6, if_pos g7, hl2]
          have hp5 : ((H5.push (.cells (vasCells l2))).push (.cells [.str [59]])).get p = some (.cells (stCells W s4)) := by simp [q3, q5, q6, hP5]
          refine does_use (p_want hW (W := W) (s := s4) hp5 hi5 [[59]] (H5.next + 1) 1 false (by simp) (by omega) (by simp)) ?_
          rintro _ H6 ⟨rfl, rfl⟩
          have hw2' : Syn.want W s4 [[59]] = Syn.want1 W s4 [59] := rfl
          rw [hw2']
          have hi6 := want1_ok hW hi5 [59]
          have hmu6 := want1_mu W s4 [59]
          simp [t0]
          refine ⟨k, by omega, l2, Syn.want1 W s4 [59], by rw [← hargs]; simp [Syn.localsL, he, hk, Syn.kind, hy], by omega, hi6, by simp only [List.length_nil, List.length_append] at hlm ⊢; omega, .inr ⟨by simp [hne2], H5.next, true, by simp, by omega, by simp [q3', vasCells_append]⟩, by unfold PAt; simp, by (try simp); omega, fun x y hxp hxy => ?_⟩
          have := old x y hxy
          have k1 : x ≠ H5.next := by omega
          have k2 : x ≠ H5.next + 1 := by omega
          simp [k1, k2, hxp, hk5 x y hxp (hkeep x y hxp hxy)]
        · have hpb : p ≠ b := by
            intro e
            subst e
            have := hP.symm.trans hb
            have hwl : l.length ≠ 0 := by simpa using hln
            have h2 := congrArg (fun x => match x with | some (AObj.cells cs) => cs.length | _ => 0) this
            simp [stCells, vasCells_len] at h2
            omega
          have hqb := Ne.symm hpb
          have hb5 : H5.get b = some (.cells (vasCells l)) := hk5 b _ hqb hb
          have hN5 := next_lt hw5 hb5
          have q1 : b ≠ H5.next := by omega
          have q2 : b2 ≠ H5.next := by omega
          have hbN := next_lt hw4 hb
          have q4 : b ≠ b2 := by omega
          have q6 : p ≠ b := hpb
          have hgrow : ¬ (l.length + l2.length ≤ l.length) := by omega
          have g1 : (l.length + l2.length) * 56 ≤ 140737488355328 := by omega
          have g2 : l.length + l2.length ≤ 4611686018427387904 := by omega
          have g3 : List.take (l.length * 5) (vasCells l) = vasCells l := by rw [List.take_of_length_le]; rw [vasCells_len]; omega
          have g5 : (vasCells l).length = l.length * 5 := vasCells_len l
          cases opn
          · simp [t0, t3, hb5, hg2, hgrow, g1, g2, g3, g4, g5, g6, if_pos g7, hl2]
            have hp5 : ((H5.push (.cells (vasCells l ++ vasCells l2))).push (.cells [.str [59]])).get p = some (.cells (stCells W s4)) := by simp [q3, q5, q6, hP5]
            refine does_use (p_want hW (W := W) (s := s4) hp5 hi5 [[59]] (H5.next + 1) 1 false (by simp) (by omega) (by simp)) ?_
            rintro _ H6 ⟨rfl, rfl⟩
            have hw2' : Syn.want W s4 [[59]] = Syn.want1 W s4 [59] := rfl
            rw [hw2']
            have hi6 := want1_ok hW hi5 [59]
            have hmu6 := want1_mu W s4 [59]
            simp [t0]
            refine ⟨k, by omega, l ++ l2, Syn.want1 W s4 [59], by rw [← hargs]; simp [Syn.localsL, he, hk, Syn.kind, hy], by omega, hi6, by simp only [List.length_nil, List.length_append] at hlm ⊢; omega, .inr ⟨by simp [hne2], H5.next, true, by simp, by omega, by simp [q3', vasCells_append]⟩, by unfold PAt; simp, by (try simp); omega, fun x y hxp hxy => ?_⟩
            have := old x y hxy
            have k1 : x ≠ H5.next := by omega
            have k2 : x ≠ H5.next + 1 := by omega
            have k3 : x ≠ b := by omega
            simp [k1, k2, hxp, k3, hk5 x y hxp (hkeep x y hxp hxy)]
          · simp [t0, t3, hb5, hg2, hgrow, g1, g2, g3, g4, g5, g6, if_pos g7, hl2]
            have hp5 : (((H5.kill b).push (.cells (vasCells l ++ vasCells l2))).push (.cells [.str [59]])).get p = some (.cells (stCells W s4)) := by simp [q3, q5, q6, hP5]
            refine does_use (p_want hW (W := W) (s := s4) hp5 hi5 [[59]] (H5.next + 1) 1 false (by simp) (by omega) (by simp)) ?_
            rintro _ H6 ⟨rfl, rfl⟩
            have hw2' : Syn.want W s4 [[59]] = Syn.want1 W s4 [59] := rfl
            rw [hw2']
            have hi6 := want1_ok hW hi5 [59]
            have hmu6 := want1_mu W s4 [59]
            simp [t0]
            refine ⟨k, by omega, l ++ l2, Syn.want1 W s4 [59], by rw [← hargs]; simp [Syn.localsL, he, hk, Syn.kind, hy], by omega, hi6, by simp only [List.length_nil, List.length_append] at hlm ⊢; omega, .inr ⟨by simp [hne2], H5.next, true, by simp, by omega, by simp [q3', vasCells_append]⟩, by unfold PAt; simp, by (try simp); omega, fun x y hxp hxy => ?_⟩
            have := old x y hxy
            have k1 : x ≠ H5.next := by omega
            have k2 : x ≠ H5.next + 1 := by omega
            have k3 : x ≠ b := by omega
            simp [k1, k2, hxp, k3, hk5 x y hxp (hkeep x y hxp hxy)]
      · have hk' : ((((Syn.at_ W s').2.kind : Nat) : Int) = 1) = False := eq_false (by omega)
        simp [wdCells, hk', t0]
        exact stop fun h => hk h.2
    · simp [he, t0]
      exact stop fun h => he h.1
  · have hk' : ((((Syn.at_ W s).2.kind : Nat) : Int) = 1) = False := eq_false (by omega)
    simp [wdCells, hk']
    obtain ⟨s1, hs1⟩ : ∃ s1, s1 = s := ⟨_, rfl⟩
    obtain ⟨l0, hl0⟩ : ∃ l0 : List Syn.Va, l0 = [] := ⟨_, rfl⟩
    have hP2 : H1.get p = some (.cells (stCells W s1)) := by rw [hs1]; exact h
    have hi2 : s1.i < W.length := by rw [hs1]; exact hi
    have hk2 : ∀ j y, j ≠ p → H1.get j = some y → H1.get j = some y := fun _ _ _ h => h
    have hlen0 : l0.length ≤ W.length + 2 := by rw [hl0]; simp
    have hsp : Syn.locals_ W s = Syn.localsL W (W.length + 1) l0 (Syn.want1 W s1 [59]) := by
      have hkk : ¬ Syn.kind W s = 1 := hk
      unfold Syn.locals_
      rw [if_neg hkk, hs1, hl0]
    have hw2 := hw
    have hpN := next_lt hw2 hP2
    have hsp1 : (H1.push (.cells [.str [59]])).get p = some (.cells (stCells W s1)) := by
      have e : p ≠ H1.next := by omega
      simp [e]; exact hP2
    refine does_use (p_want hW (W := W) (s := s1) hsp1 hi2 [[59]] H1.next 1 false (by simp) (by omega) (by simp)) ?_
    rintro _ H3 ⟨rfl, rfl⟩
    have hw1' : Syn.want W s1 [[59]] = Syn.want1 W s1 [59] := rfl
    rw [hw1']
    simp
    have hi3 := want1_ok hW hi2 [59]
    refine aws_loopw (fun m T' H' => ∃ l s', Syn.localsL W m l s' = Syn.localsL W (W.length + 1) l0 (Syn.want1 W s1 [59]) ∧ mu W s' < m ∧ s'.i < W.length ∧ l.length + m * K ≤ K + (W.length + 1) * K ∧
      T' 0 = .ptr p 0 ∧ VsR H1.next H' (T' 3) l ∧ PAt H' p W s' ∧ H1.next ≤ H'.next ∧ (∀ x y, x ≠ p → H1.get x = some y → H'.get x = some y)) (W.length + 1) ?_ ?_
    · refine ⟨l0, _, rfl, ?_, hi3, by omega, by simp, ?_, by unfold PAt; simp, by simp; try omega, fun x y hxp hxy => ?_⟩
      · unfold mu; split <;> omega
      · exact .inl ⟨hl0, by simp⟩
      · have := old x y hxy
        have e : x ≠ H1.next := by omega
        simp [hxp, e, hk2 x y hxp hxy]
    rintro m T H4 ⟨l, s', hargs, hmu, hi', hlm, t0, hvs, hP, hnx, hkeep⟩ hw4 _
    obtain ⟨k, rfl⟩ : ∃ k, m = k + 1 := ⟨m - 1, by omega⟩
    have hmulm : (k + 1) * K = k * K + K := Nat.succ_mul k K
    have stop : ¬ (s'.err = 0 ∧ Syn.kind W s' = 1) → DeclsR H1 p W (Syn.locals_ W s) (T 3) H4 := fun hs => by
      have e : Syn.locals_ W s = (l, s') := by rw [hsp, ← hargs, Syn.localsL, if_neg hs]
      rw [e]
      exact ⟨hvs, hP, hkeep⟩
    simp [t0]
    refine does_use (p_ok hP) ?_
    rintro _ _ ⟨rfl, rfl⟩
    by_cases he : s'.err = 0
    · simp [he, t0]
      refine does_use (p_word hP hi') ?_
      rintro _ _ ⟨rfl, rfl⟩
      by_cases hk : (Syn.at_ W s').2.kind = 1
      · have hk' : ((((Syn.at_ W s').2.kind : Nat) : Int) = 1) = True := eq_true (by omega)
        simp [wdCells, hk', t0]
        refine does_usew (p_local hW hP hi') ?_
        rintro r H5 ⟨⟨b2, op2, hr, hb2, hg2⟩, hP5, hk5⟩ hw5 _
        have hi5 := (kp_local hW s' hi').1
        have hm5 := local_lt hW he hk hi'
        obtain ⟨hne2, hlen2⟩ := local_ne W s'
        rcases hy : Syn.local_ W s' with ⟨l2, s4⟩
        rw [hy] at hr hg2 hP5 hi5 hm5 hne2 hlen2
        simp only at hr hg2 hP5 hi5 hm5 hne2 hlen2
        subst hr
        have hN6 := next_lt hw5 hg2
        have hP6 := next_lt hw5 hP5
        have q3 : p ≠ H5.next := by omega
        have q5 : p ≠ H5.next + 1 := by omega
        have q6 : True := trivial
        have q3' := Ne.symm q3
        have q5' := Ne.symm q5
        have hl2 : l2.length ≠ 0 := by simpa using hne2
        have g4 : List.take (l2.length * 5) (vasCells l2) = vasCells l2 := by rw [List.take_of_length_le]; rw [vasCells_len]; omega
        have g6 : (vasCells l2).length = l2.length * 5 := vasCells_len l2
        have g7 := vasCells_scalar l2
        rcases hvs with ⟨rfl, t3⟩ | ⟨hln, b, opn, t3, hbn, hb⟩
        · have g1 : l2.length * 56 ≤ 140737488355328 := by omega
          have g2 : l2.length ≤ 4611686018427387904 := by omega
          simp [t0, t3, hg2, g1, g2, g4, g6, if_pos g7, hl2]
          have hp5 : ((H5.push (.cells (vasCells l2))).push (.cells [.str [59]])).get p = some (.cells (stCells W s4)) := by simp [q3, q5, q6, hP5]
          refine does_use (p_want hW (W := W) (s := s4) hp5 hi5 [[59]] (H5.next + 1) 1 false (by simp) (by omega) (by simp)) ?_
          rintro _ H6 ⟨rfl, rfl⟩
          have hw2' : Syn.want W s4 [[59]] = Syn.want1 W s4 [59] := rfl
          rw [hw2']
          have hi6 := want1_ok hW hi5 [59]
          have hmu6 := want1_mu W s4 [59]
          simp [t0]
          refine ⟨k, by omega, l2, Syn.want1 W s4 [59], by rw [← hargs]; simp [Syn.localsL, he, hk, Syn.kind, hy], by omega, hi6, by simp only [List.length_nil, List.length_append] at hlm ⊢; omega, .inr ⟨by simp [hne2], H5.next, true, by simp, by omega, by simp [q3', vasCells_append]⟩, by unfold PAt; simp, by (try simp); omega, fun x y hxp hxy => ?_⟩
          have := old x y hxy
          have k1 : x ≠ H5.next := by omega
          have k2 : x ≠ H5.next + 1 := by omega
          simp [k1, k2, hxp, hk5 x y hxp (hkeep x y hxp hxy)]
        · have hpb : p ≠ b := by
            intro e
            subst e
            have := hP.symm.trans hb
            have hwl : l.length ≠ 0 := by simpa using hln
            have h2 := congrArg (fun x => match x with | some (AObj.cells cs) => cs.length | _ => 0) this
            simp [stCells, vasCells_len] at h2
            omega
          have hqb := Ne.symm hpb
          have hb5 : H5.get b = some (.cells (vasCells l)) := hk5 b _ hqb hb
          have hN5 := next_lt hw5 hb5
          have q1 : b ≠ H5.next := by omega
          have q2 : b2 ≠ H5.next := by omega
          have hbN := next_lt hw4 hb
          have q4 : b ≠ b2 := by omega
          have q6 : p ≠ b := hpb
          have hgrow : ¬ (l.length + l2.length ≤ l.length) := by omega
          have g1 : (l.length + l2.length) * 56 ≤ 140737488355328 := by omega
          have g2 : l.length + l2.length ≤ 4611686018427387904 := by omega
          have g3 : List.take (l.length * 5) (vasCells l) = vasCells l := by rw [List.take_of_length_le]; rw [vasCells_len]; omega
          have g5 : (vasCells l).length = l.length * 5 := vasCells_len l
          cases opn
          · simp [t0, t3, hb5, hg2, hgrow, g1, g2, g3, g4, g5, g6, if_pos g7, hl2]
            have hp5 : ((H5.push (.cells (vasCells l ++ vasCells l2))).push (.cells [.str [59]])).get p = some (.cells (stCells W s4)) := by simp [q3, q5, q6, hP5]
            refine does_use (p_want hW (W := W) (s := s4) hp5 hi5 [[59]] (H5.next + 1) 1 false (by simp) (by omega) (by simp)) ?_
            rintro _ H6 ⟨rfl, rfl⟩
            have hw2' : Syn.want W s4 [[59]] = Syn.want1 W s4 [59] := rfl
            rw [hw2']
            have hi6 := want1_ok hW hi5 [59]
            have hmu6 := want1_mu W s4 [59]
            simp [t0]
            refine ⟨k, by omega, l ++ l2, Syn.want1 W s4 [59], by rw [← hargs]; simp [Syn.localsL, he, hk, Syn.kind, hy], by omega, hi6, by simp only [List.length_nil, List.length_append] at hlm ⊢; omega, .inr ⟨by simp [hne2], H5.next, true, by simp, by omega, by simp [q3', vasCells_append]⟩, by unfold PAt; simp, by (try simp); omega, fun x y hxp hxy => ?_⟩
            have := old x y hxy
            have k1 : x ≠ H5.next := by omega
            have k2 : x ≠ H5.next + 1 := by omega
            have k3 : x ≠ b := by omega
            simp [k1, k2, hxp, k3, hk5 x y hxp (hkeep x y hxp hxy)]
          · simp [t0, t3, hb5, hg2, hgrow, g1, g2, g3, g4, g5, g6, if_pos g7, hl2]
            have hp5 : (((H5.kill b).push (.cells (vasCells l ++ vasCells l2))).push (.cells [.str [59]])).get p = some (.cells (stCells W s4)) := by simp [q3, q5, q6, hP5]
            refine does_use (p_want hW (W := W) (s := s4) hp5 hi5 [[59]] (H5.next + 1) 1 false (by simp) (by omega) (by simp)) ?_
            rintro _ H6 ⟨rfl, rfl⟩
            have hw2' : Syn.want W s4 [[59]] = Syn.want1 W s4 [59] := rfl
            rw [hw2']
            have hi6 := want1_ok hW hi5 [59]
            have hmu6 := want1_mu W s4 [59]
            simp [t0]
            refine ⟨k, by omega, l ++ l2, Syn.want1 W s4 [59], by rw [← hargs]; simp [Syn.localsL, he, hk, Syn.kind, hy], by omega, hi6, by simp only [List.length_nil, List.length_append] at hlm ⊢; omega, .inr ⟨by simp [hne2], H5.next, true, by simp, by omega, by simp [q3', vasCells_append]⟩, by unfold PAt; simp, by (try simp); omega, fun x y hxp hxy => ?_⟩
            have := old x y hxy
            have k1 : x ≠ H5.next := by omega
            have k2 : x ≠ H5.next + 1 := by omega
            have k3 : x ≠ b := by omega
            simp [k1, k2, hxp, k3, hk5 x y hxp (hkeep x y hxp hxy)]
      · have hk' : ((((Syn.at_ W s').2.kind : Nat) : Int) = 1) = False := eq_false (by omega)
        simp [wdCells, hk', t0]
        exact stop fun h => hk h.2
    · simp [he, t0]
      exact stop fun h => he h.1
end Go.Proofs.YthmnpnbcdoemfaaGreatDoor

namespace Go.Proofs.YthmnpnbcdoemfaaGreatDoor
open Go Go.Abs Go.Lex
set_option linter.unusedSimpArgs false
variable {G : Nat → Option AV}
theorem p_locals' {W : Syn.Ws} (hW : WsOk W) {s : Syn.St} {p : Nat} {H : AHeap} (h : PAt H p W s) (hi : s.i < W.length) : Does Tryz.prog G 58 [.ptr p 0] H fun r H' => r = vsV (Syn.locals_ W s).1 ∧ H' = H.set p (.cells (stCells W (Syn.locals_ W s).2)) := by
  refine Does.deep (p_locals hW h hi) ?_
  rintro hw ha r H1 ⟨h1, h2, h3⟩
  exact ⟨_, H.set p (.cells (stCells W (Syn.locals_ W s).2)), h1.res, rfl, set_back hw h h2 h3, rfl, rfl⟩
def eqCells (q : Syn.Eqn) : List AV := .str q.name :: (exCells q.e ++ [.int .i64 q.pos])
def eqsCells : List Syn.Eqn → List AV
  | [] => []
  | q :: l => eqCells q ++ eqsCells l
theorem eqCells_len (q : Syn.Eqn) : (eqCells q).length = 7 := by simp [eqCells, exCells_len]
theorem eqsCells_len : ∀ l : List Syn.Eqn, (eqsCells l).length = l.length * 7
  | [] => rfl
  | q :: l => by rw [eqsCells, List.length_append, eqsCells_len l, eqCells_len]; simp; omega
theorem eqsCells_append : ∀ a b : List Syn.Eqn, eqsCells (a ++ b) = eqsCells a ++ eqsCells b
  | [], b => rfl
  | q :: a, b => by rw [List.cons_append, eqsCells, eqsCells, eqsCells_append a b, List.append_assoc]
theorem eqsCells_lt (n : Nat) : ∀ l : List Syn.Eqn, AV.allLt n (eqsCells l) = true
  | [] => rfl
  | q :: l => by
    rw [eqsCells, allLt_app, eqsCells_lt n l]
    simp [eqCells, AV.allLt, AV.idLt, allLt_app, exCells_lt]
def eqsV (l : List Syn.Eqn) : AV := if l.isEmpty then .nilsl else .vsl (eqsCells l) l.length
def EqsR (n : Nat) (H' : AHeap) (r : AV) (l : List Syn.Eqn) : Prop := (l = [] ∧ r = .nilsl) ∨ l ≠ [] ∧ ∃ b op, r = .sl b 0 7 l.length l.length op ∧ n ≤ b ∧ H'.get b = some (.cells (eqsCells l))
theorem EqsR.res {n : Nat} {H' : AHeap} {r : AV} {l : List Syn.Eqn} (h : EqsR n H' r l) : ResV H'.get n r (eqsV l) := by
  rcases h with ⟨rfl, rfl⟩ | ⟨hl, b, op, rfl, hb, hg⟩
  · exact .old rfl
  · have : eqsV l = .vsl (eqsCells l) l.length := by unfold eqsV; rw [if_neg (by simpa using hl)]
    rw [this]
    refine .sl hb hg ?_
    rw [List.drop_zero, List.take_of_length_le (by rw [eqsCells_len]; omega)]
    exact ResL.old (eqsCells_lt _ _)
def ndCells (n : Syn.Nd) : List AV := [.str n.name, vsV n.ins, vsV n.outs, vsV n.locals, eqsV n.eqs, .int .i64 n.pos]
def EqsB (n m : Nat) (H' : AHeap) (r : AV) (l : List Syn.Eqn) : Prop := (l = [] ∧ r = .nilsl) ∨ l ≠ [] ∧ ∃ b op, r = .sl b 0 7 l.length l.length op ∧ n ≤ b ∧ b < m ∧ H'.get b = some (.cells (eqsCells l))
theorem EqsB.to {n m : Nat} {H' H2 : AHeap} {r : AV} {l : List Syn.Eqn} (h : EqsB n m H' r l) (hk : ∀ b, n ≤ b → b < m → H2.get b = H'.get b) : EqsB n m H2 r l := by
  rcases h with h | ⟨hl, b, op, h1, h2, h3, h4⟩
  · exact .inl h
  · exact .inr ⟨hl, b, op, h1, h2, h3, by rw [hk b h2 h3]; exact h4⟩
theorem name_lt {W : Syn.Ws} {s : Syn.St} (he : s.err = 0) (hk : (Syn.at_ W s).2.kind = 1) (hi : s.i < W.length) : mu W (Syn.name W s).2 < mu W s := by
  have hk2 : Syn.kind W s = 1 := hk
  unfold Syn.name
  rw [if_pos hk2]
  simp only [he, if_true]
  unfold mu
  simp only [he, if_true]
  omega
theorem kp_want {W : Syn.Ws} (hW : WsOk W) : ∀ (ts : List Bs) (s : Syn.St), Kp W s (Syn.want W s ts)
  | [], s => Kp.refl s
  | t :: ts, s => (kp_want1 hW s t).trans (kp_want hW ts _)
def z6 : List AV := [.str [], .nilsl, .nilsl, .nilsl, .nilsl, .int .i64 0]
structure NI (W : Syn.Ws) (H : AHeap) (p : Nat) (H1 : AHeap) (s : Syn.St) (c : List AV) : Prop where
  P : H1.get p = some (.cells (stCells W s))
  g : H1.get (H.next + 1) = some (.cells c)
  z : H1.get H.next = some (.cells z6)
  l : p < H.next
  n : H.next + 1 < H1.next
  k : ∀ x y, x < H.next → x ≠ p → H.get x = some y → H1.get x = some y
section
variable {W : Syn.Ws} {H H1 : AHeap} {p : Nat} {s : Syn.St} {c : List AV}
theorem NI.push (h : NI W H p H1 s c) (x : AObj) : NI W H p (H1.push x) s c := by
  have hp := h.l
  have hn := h.n
  have e1 : p ≠ H1.next := by omega
  have e2 : H.next + 1 ≠ H1.next := by omega
  have e3 : H.next ≠ H1.next := by omega
  refine ⟨by simp [e1, h.P], by simp [e2, h.g], by simp [e3, h.z], hp, by simp; omega, fun j y j1 j2 j3 => ?_⟩
  have e4 : j ≠ H1.next := by omega
  simp [e4, h.k j y j1 j2 j3]
theorem NI.setp (h : NI W H p H1 s c) (s' : Syn.St) : NI W H p (H1.set p (.cells (stCells W s'))) s' c := by
  have hp := h.l
  have hn := h.n
  have e2 : H.next + 1 ≠ p := by omega
  have e3 : H.next ≠ p := by omega
  exact ⟨by simp, by simp [e2, h.g], by simp [e3, h.z], hp, by simpa using hn, fun j y j1 j2 j3 => by simp [j2, h.k j y j1 j2 j3]⟩
theorem NI.setn (h : NI W H p H1 s c) (c' : List AV) : NI W H p (H1.set (H.next + 1) (.cells c')) s c' := by
  have hp := h.l
  have hn := h.n
  have e1 : p ≠ H.next + 1 := by omega
  refine ⟨by simp [e1, h.P], by simp, by simp [h.z], hp, by simpa using hn, fun j y j1 j2 j3 => ?_⟩
  have e4 : j ≠ H.next + 1 := by omega
  simp [e4, h.k j y j1 j2 j3]
theorem NI.sete (h : NI W H p H1 s c) (b : Nat) (x : AObj) (hb : H.next + 1 < b) : NI W H p (H1.set b x) s c := by
  have hp := h.l
  have e1 : p ≠ b := by omega
  have e2 : H.next + 1 ≠ b := by omega
  have e3 : H.next ≠ b := by omega
  refine ⟨by simp [e1, h.P], by simp [e2, h.g], by simp [e3, h.z], hp, by simpa using h.n, fun j y j1 j2 j3 => ?_⟩
  have e4 : j ≠ b := by omega
  simp [e4, h.k j y j1 j2 j3]
theorem NI.kill (h : NI W H p H1 s c) (b : Nat) (hb : H.next + 1 < b) : NI W H p (H1.kill b) s c := by
  have hp := h.l
  have e1 : p ≠ b := by omega
  have e2 : H.next + 1 ≠ b := by omega
  have e3 : H.next ≠ b := by omega
  refine ⟨by simp [e1, h.P], by simp [e2, h.g], by simp [e3, h.z], hp, by simpa using h.n, fun j y j1 j2 j3 => ?_⟩
  have e4 : j ≠ b := by omega
  simp [e4, h.k j y j1 j2 j3]
theorem NI.np (h : NI W H p H1 s c) : H1.next ≠ p := by have := h.l; have := h.n; omega
theorem NI.np' (h : NI W H p H1 s c) : p ≠ H1.next := Ne.symm h.np
theorem NI.nn (h : NI W H p H1 s c) : H.next + 1 ≠ H1.next := by have := h.n; omega
theorem NI.p1 (h : NI W H p H1 s c) : p ≠ H.next + 1 := by have := h.l; omega
end
set_option maxHeartbeats 16000000 in
set_option maxRecDepth 100000 in
theorem p_node {W : Syn.Ws} (hW : WsOk W) {s : Syn.St} {p : Nat} {H : AHeap} (h : PAt H p W s) (hi : s.i < W.length) : Does Tryz.prog G 24 [.ptr p 0] H fun r H' => ∃ E, r = .agg [.str (Syn.node W s).1.name, vsV (Syn.node W s).1.ins, vsV (Syn.node W s).1.outs, vsV (Syn.node W s).1.locals, E, .int .i64 (Syn.node W s).1.pos] ∧ EqsR H.next H' E (Syn.node W s).1.eqs ∧
    H'.get p = some (.cells (stCells W (Syn.node W s).2)) ∧ ∀ j y, j ≠ p → H.get j = some y → H'.get j = some y := by
  refine Does.wf Tryz.call24 fun hw _ => ?_
  have old : ∀ j x, H.get j = some x → j < H.next := fun j x hj => next_lt hw hj
  refine does_f Tryz.call24 Tryz.func24 rfl (by simp [Tryz.f24]) ?_
  have hpl := old _ _ h
  have hsm := hW.small
  have hp1 : p ≠ H.next := by omega
  have hp2 : p ≠ H.next + 1 := by omega
  have h' := h
  unfold PAt at h'
  simp
  refine does_use (p_word (W := W) (s := s) (by unfold PAt; simp [hp1, h']) hi) ?_
  rintro _ _ ⟨rfl, rfl⟩
  obtain ⟨s0, hs0⟩ : ∃ s0 : Syn.St, s0 = { s with names := 0 } := ⟨_, rfl⟩
  have hi0 : s0.i < W.length := by rw [hs0]; exact hi
  have st0 : stCells W s0 = [.vsl (flatW W) W.length, .int .i64 s.i, .int .i64 0, .int .i64 s.parts, .int .i64 s.err, .int .i64 s.pos] := by rw [hs0]; rfl
  unfold stCells at h'
  simp [wdCells, h', hp1, hp2]
  rw [← st0]
  have b0 : NI W H p ((H.push (.cells z6)).push (.cells z6)) s z6 := by
    have e1 : H.next ≠ H.next + 1 := by omega
    refine ⟨by simp [hp1, hp2]; exact h, by simp, by simp [e1], hpl, by simp, fun x y j1 j2 j3 => ?_⟩
    have e2 : x ≠ H.next := by omega
    have e3 : x ≠ H.next + 1 := by omega
    simp [e2, e3, j3]
  obtain ⟨pos, hpos⟩ : ∃ pos, pos = (Syn.at_ W s).1 := ⟨_, rfl⟩
  rw [← hpos]
  have i0 := (b0.setn [.str [], .nilsl, .nilsl, .nilsl, .nilsl, .int .i64 pos]).setp s0
  generalize hH0 : ((((H.push (.cells z6)).push (.cells z6)).set (H.next + 1) (.cells [.str [], .nilsl, .nilsl, .nilsl, .nilsl, .int .i64 pos])).set p (.cells (stCells W s0))) = H0 at i0
  unfold z6 at hH0
  rw [hH0]
  have n0 : H.next + 1 + 1 = H0.next := by rw [← hH0]; rfl
  rw [n0]
  clear hH0 n0
  refine does_use (p_want hW (W := W) (s := s0) (i0.push _).P hi0 [[110, 111, 100, 101]] _ 1 false (by simp) i0.np (by simp)) ?_
  rintro _ H1 ⟨rfl, hH1⟩
  obtain ⟨s1, hs1⟩ : ∃ x, x = Syn.want1 W s0 [110, 111, 100, 101] := ⟨_, rfl⟩
  have hi1 : s1.i < W.length := by rw [hs1]; exact want1_ok hW hi0 _
  have i1 : NI W H p H1 s1 [.str [], .nilsl, .nilsl, .nilsl, .nilsl, .int .i64 pos] := by
    rw [hH1, hs1]; exact (i0.push _).setp _
  clear hH1
  simp
  refine does_use (p_name hW i1.P hi1) ?_
  rintro _ H2 ⟨rfl, hH2⟩
  have hi2 := (kp_name hW s1 hi1).1
  rcases hx2 : Syn.name W s1 with ⟨nm, s2⟩
  rw [hx2] at hH2 hi2
  simp only at hH2 hi2
  have i2 : NI W H p H2 s2 [.str [], .nilsl, .nilsl, .nilsl, .nilsl, .int .i64 pos] := by
    rw [hH2]; exact i1.setp _
  clear hH2
  simp [i2.g]
  have j2 := i2.setn [.str nm, .nilsl, .nilsl, .nilsl, .nilsl, .int .i64 pos]
  refine does_use (p_want hW (W := W) (s := s2) (j2.push _).P hi2 [[40]] _ 1 false (by simp) j2.np (by simp)) ?_
  rintro _ H3 ⟨rfl, hH3⟩
  obtain ⟨s3, hs3⟩ : ∃ x, x = Syn.want1 W s2 [40] := ⟨_, rfl⟩
  have hi3 : s3.i < W.length := by rw [hs3]; exact want1_ok hW hi2 _
  have i3 : NI W H p H3 s3 [.str nm, .nilsl, .nilsl, .nilsl, .nilsl, .int .i64 pos] := by
    rw [hH3, hs3]; exact (j2.push _).setp _
  clear hH3
  simp
  refine does_use (p_decls' hW i3.P hi3) ?_
  rintro _ H4 ⟨rfl, hH4⟩
  have hi4 := (kp_decls hW s3 hi3).1
  rcases hx4 : Syn.decls W s3 with ⟨ins, s4⟩
  rw [hx4] at hH4 hi4
  simp only at hH4 hi4
  have i4 : NI W H p H4 s4 [.str nm, .nilsl, .nilsl, .nilsl, .nilsl, .int .i64 pos] := by
    rw [hH4]; exact i3.setp _
  clear hH4
  simp [i4.g]
  have j4 := i4.setn [.str nm, vsV ins, .nilsl, .nilsl, .nilsl, .int .i64 pos]
  refine does_use (p_want hW (W := W) (s := s4) (j4.push _).P hi4 [[41], [114, 101, 116, 117, 114, 110, 115], [40]] _ 3 false (by simp) j4.np (by simp)) ?_
  rintro _ H5 ⟨rfl, hH5⟩
  obtain ⟨s5, hs5⟩ : ∃ x, x = Syn.want W s4 [[41], [114, 101, 116, 117, 114, 110, 115], [40]] := ⟨_, rfl⟩
  have hi5 : s5.i < W.length := by rw [hs5]; exact want_ok hW _ hi4
  have i5 : NI W H p H5 s5 [.str nm, vsV ins, .nilsl, .nilsl, .nilsl, .int .i64 pos] := by
    rw [hH5, hs5]; exact (j4.push _).setp _
  clear hH5
  simp
  refine does_use (p_decls' hW i5.P hi5) ?_
  rintro _ H6 ⟨rfl, hH6⟩
  have hi6 := (kp_decls hW s5 hi5).1
  rcases hx6 : Syn.decls W s5 with ⟨outs, s6⟩
  rw [hx6] at hH6 hi6
  simp only at hH6 hi6
  have i6 : NI W H p H6 s6 [.str nm, vsV ins, .nilsl, .nilsl, .nilsl, .int .i64 pos] := by
    rw [hH6]; exact i5.setp _
  clear hH6
  simp [i6.g]
  have j6 := i6.setn [.str nm, vsV ins, vsV outs, .nilsl, .nilsl, .int .i64 pos]
  refine does_use (p_want hW (W := W) (s := s6) (j6.push _).P hi6 [[41], [59]] _ 2 false (by simp) j6.np (by simp)) ?_
  rintro _ H7 ⟨rfl, hH7⟩
  obtain ⟨s7, hs7⟩ : ∃ x, x = Syn.want W s6 [[41], [59]] := ⟨_, rfl⟩
  have hi7 : s7.i < W.length := by rw [hs7]; exact want_ok hW _ hi6
  have i7 : NI W H p H7 s7 [.str nm, vsV ins, vsV outs, .nilsl, .nilsl, .int .i64 pos] := by
    rw [hH7, hs7]; exact (j6.push _).setp _
  clear hH7
  simp
  refine does_use (p_take hW i7.P hi7 [118, 97, 114]) ?_
  rintro _ H8 ⟨rfl, hH8⟩
  have hi8 := take_ok hW hi7 [118, 97, 114]
  rcases hx8 : Syn.take W s7 [118, 97, 114] with ⟨bv, s8⟩
  rw [hx8] at hH8 hi8
  simp only at hH8 hi8
  have i8 : NI W H p H8 s8 [.str nm, vsV ins, vsV outs, .nilsl, .nilsl, .int .i64 pos] := by
    rw [hH8]; exact i7.setp _
  clear hH8
  cases bv
  · simp
    obtain ⟨locs, hlocs⟩ : ∃ l : List Syn.Va, l = [] := ⟨_, rfl⟩
    have i9 : NI W H p H8 s8 [.str nm, vsV ins, vsV outs, vsV locs, .nilsl, .int .i64 pos] := by
      rw [hlocs]; exact i8
    have hi9 := hi8
    obtain ⟨s9, hs9⟩ : ∃ x, x = s8 := ⟨_, rfl⟩
    rw [← hs9] at i9 hi9
    refine does_use (p_want hW (W := W) (s := s9) (i9.push _).P hi9 [[108, 101, 116]] _ 1 false (by simp) i9.np (by simp)) ?_
    rintro _ HA ⟨rfl, hHA⟩
    obtain ⟨sA, hsA⟩ : ∃ x, x = Syn.want1 W s9 [108, 101, 116] := ⟨_, rfl⟩
    have hiA : sA.i < W.length := by rw [hsA]; exact want1_ok hW hi9 _
    have iA : NI W H p HA sA [.str nm, vsV ins, vsV outs, vsV locs, .nilsl, .int .i64 pos] := by
      rw [hHA, hsA]; exact (i9.push _).setp _
    clear hHA
    simp
    refine aws_loopw (fun m T' H' => ∃ l s' E, Syn.eqsL W m l s' = Syn.eqsL W (W.length + 1) [] sA ∧ mu W s' < m ∧ s'.i < W.length ∧ l.length + m ≤ W.length + 1 ∧
      T' 0 = .ptr p 0 ∧ T' 2 = .ptr H.next 0 ∧ T' 3 = .ptr (H.next + 1) 0 ∧ NI W H p H' s' [.str nm, vsV ins, vsV outs, vsV locs, E, .int .i64 pos] ∧ EqsR (H.next + 2) H' E l) (W.length + 1)
      ⟨[], sA, .nilsl, rfl, by unfold mu; split <;> omega, hiA, by simp, by simp, by simp, by simp, iA, .inl ⟨rfl, rfl⟩⟩ ?_
    rintro m T H1 ⟨l, s', E, hargs, hmu, hi', hlm, t0, t2, t3, iI, hE0⟩ hw1 _
    have hE : EqsB (H.next + 2) H1.next H1 E l := by
      rcases hE0 with h | ⟨hln, b, opn, h1, h2, h3⟩
      · exact .inl h
      · exact .inr ⟨hln, b, opn, h1, h2, next_lt hw1 h3, h3⟩
    obtain ⟨k, rfl⟩ : ∃ k, m = k + 1 := ⟨m - 1, by omega⟩
    simp [t0]
    refine does_use (p_ok iI.P) ?_
    rintro _ HX ⟨rfl, hHX⟩
    rw [hHX]
    clear hHX HX
    by_cases he : s'.err = 0
    rotate_left
    · have hend : Syn.eqsL W (k + 1) l s' = (l, s') := by rw [Syn.eqsL, if_neg (fun h => he h.1)]
      rw [hend] at hargs
      simp [he, t0, t2, t3]
      refine does_use (p_want hW (W := W) (s := s') (iI.push _).P hi' [[116, 101, 108]] _ 1 false (by simp) iI.np (by simp)) ?_
      rintro _ HY ⟨rfl, hHY⟩
      obtain ⟨sY, hsY⟩ : ∃ x, x = Syn.want1 W s' [116, 101, 108] := ⟨_, rfl⟩
      have hiY : sY.i < W.length := by rw [hsY]; exact want1_ok hW hi' _
      have iY : NI W H p HY sY [.str nm, vsV ins, vsV outs, vsV locs, E, .int .i64 pos] := by
        rw [hHY, hsY]; exact (iI.push _).setp _
      have hEY : EqsB (H.next + 2) H1.next HY E l := hE.to fun b b1 b2 => by
        have e : b ≠ p := by have := iI.l; omega
        have e3 : b ≠ H1.next := by omega
        rw [hHY]; simp [e, e3]
      clear hHY
      simp [t0]
      refine does_use (p_take hW iY.P hiY [59]) ?_
      rintro _ HZ ⟨rfl, hHZ⟩
      rcases hxZ : Syn.take W sY [59] with ⟨bz, sZ⟩
      rw [hxZ] at hHZ
      simp only at hHZ
      have iZ : NI W H p HZ sZ [.str nm, vsV ins, vsV outs, vsV locs, E, .int .i64 pos] := by
        rw [hHZ]; exact iY.setp _
      have hEZ : EqsB (H.next + 2) H1.next HZ E l := hEY.to fun b b1 b2 => by
        have e : b ≠ p := by have := iI.l; omega
        rw [hHZ]; simp [e]
      clear hHZ
      have iZz := iZ.z
      unfold z6 at iZz
      have hnode : Syn.node W s = (⟨nm, ins, outs, locs, l, pos⟩, sZ) := by
        simp only [Syn.node, ← hs0, ← hs1, hx2, ← hs3, hx4, ← hs5, hx6, ← hs7, hx8, Bool.false_eq_true, if_false, ← hs9, ← hlocs, ← hsA, ← hargs, ← hsY, hxZ, ← hpos]
        try rfl
      rw [hnode]
      have hEsc : E.scalar = true ∧ E.cells = [E] := by
        rcases hE with ⟨_, rfl⟩ | ⟨_, b, opn, rfl, _⟩ <;> exact ⟨rfl, rfl⟩
      simp [t2, t3, iZ.g, iZz, hEsc.1, hEsc.2]
      refine ⟨?_, by simp [hp1, iZ.P], fun j y j1 j2 => ?_⟩
      · rcases hEZ with h | ⟨hln, b, opn, h1, h2, _, h3⟩
        · exact .inl h
        · have e : b ≠ H.next := by omega
          exact .inr ⟨hln, b, opn, h1, by omega, by simp [e, h3]⟩
      · have := old j y j2
        have e : j ≠ H.next := by omega
        simp [e, iZ.k j y this j1 j2]
    simp [he, t0]
    refine does_use (p_word iI.P hi') ?_
    rintro _ HX ⟨rfl, hHX⟩
    rw [hHX]
    clear hHX HX
    by_cases hk : (Syn.at_ W s').2.kind = 1
    rotate_left
    · have hend : Syn.eqsL W (k + 1) l s' = (l, s') := by rw [Syn.eqsL, if_neg (fun h => hk h.2)]
      have hk' : ((((Syn.at_ W s').2.kind : Nat) : Int) = 1) = False := eq_false (by omega)
      rw [hend] at hargs
      simp [wdCells, hk', t0, t2, t3]
      refine does_use (p_want hW (W := W) (s := s') (iI.push _).P hi' [[116, 101, 108]] _ 1 false (by simp) iI.np (by simp)) ?_
      rintro _ HY ⟨rfl, hHY⟩
      obtain ⟨sY, hsY⟩ : ∃ x, x = Syn.want1 W s' [116, 101, 108] := ⟨_, rfl⟩
      have hiY : sY.i < W.length := by rw [hsY]; exact want1_ok hW hi' _
      have iY : NI W H p HY sY [.str nm, vsV ins, vsV outs, vsV locs, E, .int .i64 pos] := by
        rw [hHY, hsY]; exact (iI.push _).setp _
      have hEY : EqsB (H.next + 2) H1.next HY E l := hE.to fun b b1 b2 => by
        have e : b ≠ p := by have := iI.l; omega
        have e3 : b ≠ H1.next := by omega
        rw [hHY]; simp [e, e3]
      clear hHY
      simp [t0]
      refine does_use (p_take hW iY.P hiY [59]) ?_
      rintro _ HZ ⟨rfl, hHZ⟩
      rcases hxZ : Syn.take W sY [59] with ⟨bz, sZ⟩
      rw [hxZ] at hHZ
      simp only at hHZ
      have iZ : NI W H p HZ sZ [.str nm, vsV ins, vsV outs, vsV locs, E, .int .i64 pos] := by
        rw [hHZ]; exact iY.setp _
      have hEZ : EqsB (H.next + 2) H1.next HZ E l := hEY.to fun b b1 b2 => by
        have e : b ≠ p := by have := iI.l; omega
        rw [hHZ]; simp [e]
      clear hHZ
      have iZz := iZ.z
      unfold z6 at iZz
      have hnode : Syn.node W s = (⟨nm, ins, outs, locs, l, pos⟩, sZ) := by
        simp only [Syn.node, ← hs0, ← hs1, hx2, ← hs3, hx4, ← hs5, hx6, ← hs7, hx8, Bool.false_eq_true, if_false, ← hs9, ← hlocs, ← hsA, ← hargs, ← hsY, hxZ, ← hpos]
        try rfl
      rw [hnode]
      have hEsc : E.scalar = true ∧ E.cells = [E] := by
        rcases hE with ⟨_, rfl⟩ | ⟨_, b, opn, rfl, _⟩ <;> exact ⟨rfl, rfl⟩
      simp [t2, t3, iZ.g, iZz, hEsc.1, hEsc.2]
      refine ⟨?_, by simp [hp1, iZ.P], fun j y j1 j2 => ?_⟩
      · rcases hEZ with h | ⟨hln, b, opn, h1, h2, _, h3⟩
        · exact .inl h
        · have e : b ≠ H.next := by omega
          exact .inr ⟨hln, b, opn, h1, by omega, by simp [e, h3]⟩
      · have := old j y j2
        have e : j ≠ H.next := by omega
        simp [e, iZ.k j y this j1 j2]
    have hk' : ((((Syn.at_ W s').2.kind : Nat) : Int) = 1) = True := eq_true (by omega)
    simp [wdCells, hk', t0]
    refine does_use (p_word iI.P hi') ?_
    rintro _ HX ⟨rfl, hHX⟩
    rw [hHX]
    clear hHX HX
    simp [wdCells, t0]
    refine does_usew (p_name hW iI.P hi') ?_
    rintro _ HB ⟨rfl, hHB⟩ hwB _
    have hiB := (kp_name hW s' hi').1
    have hmB := name_lt he hk hi'
    rcases hxB : Syn.name W s' with ⟨nmq, sB⟩
    rw [hxB] at hHB hiB hmB
    simp only at hHB hiB hmB
    have iB : NI W H p HB sB [.str nm, vsV ins, vsV outs, vsV locs, E, .int .i64 pos] := by
      rw [hHB]; exact iI.setp _
    have hE' : EqsB (H.next + 2) HB.next HB E l := by
      rcases hE with h | ⟨hln, b, opn, h1, h2, _, h3⟩
      · exact .inl h
      · have e : b ≠ p := by have := iI.l; omega
        have h4 : HB.get b = some (.cells (eqsCells l)) := by rw [hHB]; simp [e, h3]
        exact .inr ⟨hln, b, opn, h1, h2, next_lt hwB h4, h4⟩
    clear hE hHB
    obtain ⟨posq, hposq⟩ : ∃ x, x = (Syn.at_ W s').1 := ⟨_, rfl⟩
    rw [← hposq]
    simp [t0]
    have iB2 := iB.push (.cells [.str nmq, .str [], .str [], .int .i64 0, .int .i64 0, .nilsl, .int .i64 posq])
    refine does_use (p_want hW (W := W) (s := sB) (iB2.push _).P hiB [[61]] _ 1 false (by simp) (by have := iB2.np; simpa using this) (by simp)) ?_
    rintro _ HC ⟨rfl, hHC⟩
    obtain ⟨sC, hsC⟩ : ∃ x, x = Syn.want1 W sB [61] := ⟨_, rfl⟩
    have hiC : sC.i < W.length := by rw [hsC]; exact want1_ok hW hiB _
    have hmC : mu W sC ≤ mu W sB := by rw [hsC]; exact want1_mu W sB _
    have iC : NI W H p HC sC [.str nm, vsV ins, vsV outs, vsV locs, E, .int .i64 pos] := by
      rw [hHC, hsC]; exact (iB2.push _).setp _
    have tbp := iB.np
    have nBC : HB.next < HC.next := by rw [hHC]; simp; omega
    have tC : HC.get HB.next = some (.cells [.str nmq, .str [], .str [], .int .i64 0, .int .i64 0, .nilsl, .int .i64 posq]) := by
      rw [hHC]; simp [tbp]
    have hEC : EqsB (H.next + 2) HB.next HC E l := hE'.to fun b b1 b2 => by
      have e : b ≠ p := by have := iI.l; omega
      have e3 : b ≠ HB.next := by omega
      have e4 : b ≠ HB.next + 1 := by omega
      rw [hHC]; simp [e, e3, e4]
    clear hE' hHC
    obtain ⟨sD, hsD⟩ : ∃ x : Syn.St, x = { sC with parts := 0 } := ⟨_, rfl⟩
    have hiD : sD.i < W.length := by rw [hsD]; exact hiC
    have hmD : mu W sD ≤ mu W sC := by rw [hsD]; exact Nat.le_refl _
    have stD : stCells W sD = [.vsl (flatW W) W.length, .int .i64 sC.i, .int .i64 sC.names, .int .i64 0, .int .i64 sC.err, .int .i64 sC.pos] := by rw [hsD]; rfl
    have hPC := iC.P
    unfold stCells at hPC
    simp [hPC, t0]
    rw [← stD]
    have iD := iC.setp sD
    obtain ⟨HE0, hHE0⟩ : ∃ x, x = HC.set p (.cells (stCells W sD)) := ⟨_, rfl⟩
    rw [← hHE0] at iD ⊢
    have hED : EqsB (H.next + 2) HB.next HE0 E l := hEC.to fun b b1 b2 => by
      have e : b ≠ p := by have := iI.l; omega
      rw [hHE0]; simp [e]
    have tD : HE0.get HB.next = some (.cells [.str nmq, .str [], .str [], .int .i64 0, .int .i64 0, .nilsl, .int .i64 posq]) := by rw [hHE0]; simp [tbp, tC]
    have nBD : HB.next < HE0.next := by rw [hHE0]; simpa using nBC
    clear hHE0 hEC tC
    refine does_use (p_ok iD.P) ?_
    rintro _ HX ⟨rfl, hHX⟩
    rw [hHX]
    clear hHX HX
    by_cases heD : sD.err = 0
    · have heC : sC.err = 0 := by rw [hsD] at heD; exact heD
      simp [heD, t0]
      refine does_use (p_top hW p _ sD iD.P hiD) ?_
      rintro _ HE ⟨rfl, hHE⟩
      have hiE := (top_keeps hW).i sD hiD
      have hmE := (top_keeps hW).mu sD hiD
      rcases hxe0 : (Syn.lv W 29).expr sD with ⟨⟨eop, enm, en, epos, eks⟩, sE⟩
      rw [hxe0] at hHE hiE hmE
      simp only at hHE hiE hmE
      have iE : NI W H p HE sE [.str nm, vsV ins, vsV outs, vsV locs, E, .int .i64 pos] := by
        rw [hHE]; exact iD.setp _
      have tE : HE.get HB.next = some (.cells [.str nmq, .str [], .str [], .int .i64 0, .int .i64 0, .nilsl, .int .i64 posq]) := by rw [hHE]; simp [tbp, tD]
      have hEE : EqsB (H.next + 2) HB.next HE E l := hED.to fun b b1 b2 => by
        have e : b ≠ p := by have := iI.l; omega
        rw [hHE]; simp [e]
      have nBE : HB.next < HE.next := by rw [hHE]; simpa using nBD
      clear hHE
      have iE2 := iE.sete HB.next (.cells [.str nmq, .str eop, .str enm, .int .i64 en, .int .i64 epos, kidsV eks, .int .i64 posq]) (by have := iB.n; omega)
      have tE2 : True := trivial
      simp [exCells_mk, tE, t0]
      refine does_use (p_want hW (W := W) (s := sE) (iE2.push _).P hiE [[59]] _ 1 false (by simp) (by have := iE2.np; simpa using this) (by simp)) ?_
      rintro _ HF ⟨rfl, hHF⟩
      obtain ⟨sF, hsF⟩ : ∃ x, x = Syn.want1 W sE [59] := ⟨_, rfl⟩
      have hiF : sF.i < W.length := by rw [hsF]; exact want1_ok hW hiE _
      have hmF : mu W sF ≤ mu W sE := by rw [hsF]; exact want1_mu W sE _
      have iF : NI W H p HF sF [.str nm, vsV ins, vsV outs, vsV locs, E, .int .i64 pos] := by
        rw [hHF, hsF]; exact (iE2.push _).setp _
      have nBF : HB.next < HF.next := by rw [hHF]; simp; omega
      have tF : HF.get HB.next = some (.cells (eqCells ⟨nmq, .mk eop enm en epos eks, posq⟩)) := by
        rw [hHF]; simp [tbp, Nat.ne_of_lt nBE, tE2, eqCells, exCells_mk, kidsV, Syn.Ex.zero]
      have hEF : EqsB (H.next + 2) HB.next HF E l := hEE.to fun b b1 b2 => by
        have e : b ≠ p := by have := iI.l; omega
        have e3 : b ≠ HB.next := by omega
        have e4 : b ≠ HE.next := by omega
        rw [hHF]; simp [e, e3, e4]
      clear hHF
      have hql := eqCells_len ⟨nmq, .mk eop enm en epos eks, posq⟩
      have hqs : ∀ x ∈ eqCells ⟨nmq, .mk eop enm en epos eks, posq⟩, x.scalar = true := by simp [eqCells, exCells_mk, Syn.Ex.zero]
      have hqq : eqsCells [⟨nmq, .mk eop enm en epos eks, posq⟩] = eqCells ⟨nmq, .mk eop enm en epos eks, posq⟩ := by simp [eqsCells]
      have hstep : Syn.eqsL W (k + 1) l s' = Syn.eqsL W k (l ++ [⟨nmq, .mk eop enm en epos eks, posq⟩]) sF := by
        rw [Syn.eqsL, if_pos ⟨he, hk⟩]
        simp only [hxB, ← hsC, ← hsD, hxe0, ← hposq]
        simp only [if_pos heC, ← hsF]
      rw [hstep] at hargs
      obtain ⟨q, hq⟩ : ∃ q : Syn.Eqn, q = ⟨nmq, .mk eop enm en epos eks, posq⟩ := ⟨_, rfl⟩
      rw [← hq] at tF hql hqs hqq hargs
      obtain ⟨qc, hqc⟩ : ∃ qc, qc = eqCells q := ⟨_, rfl⟩
      rw [← hqc] at tF hql hqs hqq
      have g7 : List.take 7 qc = qc := List.take_of_length_le (by omega)
      have hqs' : (∀ x : AV, x ∈ qc → x.scalar = true) = True := eq_true hqs
      have iFn := iF.n
      have iFg := iF.g
      have tbF : HB.next ≠ HF.next := by omega
      have n1F : H.next + 1 ≠ HF.next := by omega
      have n2F : H.next + 1 ≠ HF.next + 1 := by omega
      have n3F : H.next ≠ HF.next := by omega
      rcases hEF with ⟨rfl, rfl⟩ | ⟨hln, b, opn, rfl, hbn, hbB, hb⟩
      · simp [iFg, tF, n1F, n2F, n3F, tbF, t0, t2, t3, hql, g7, hqs']
        exact ⟨k, by omega, [q], sF, by simpa using hargs, by omega, hiF, by simp only [List.length_nil, List.length_cons] at hlm ⊢; omega, _, ((iF.push _).push _).setn _, .inr ⟨by simp, HF.next + 1, true, by simp, by omega, by simp [Ne.symm n3F, hqq]⟩⟩
      · have bF : b ≠ HF.next := by omega
        have g1 : List.take (l.length * 7) (eqsCells l) = eqsCells l := by rw [List.take_of_length_le]; rw [eqsCells_len]; omega
        have g2 : (eqsCells l).length = l.length * 7 := eqsCells_len l
        have hgrow : ¬ (l.length + 1 ≤ l.length) := by omega
        have g3 : (l.length + 1) * 96 ≤ 140737488355328 := by omega
        have g4 : l.length ≤ 4611686018427387903 := by omega
        have nb : H.next + 1 ≠ b := by omega
        have nbF : HF.next + 1 ≠ b := by omega
        cases opn
        · simp [iFg, tF, n1F, n2F, n3F, tbF, t0, t2, t3, hql, g7, hqs', hb, bF, g1, g2, g3, g4, hgrow]
          exact ⟨k, by omega, l ++ [q], sF, hargs, by omega, hiF, by simp; omega, _, ((iF.push _).push _).setn _, .inr ⟨by simp, HF.next + 1, true, by simp, by omega, by simp [Ne.symm n3F, hqq, eqsCells_append]⟩⟩
        · simp [iFg, tF, n1F, n2F, n3F, tbF, t0, t2, t3, hql, g7, hqs', hb, bF, g1, g2, g3, g4, hgrow, nb]
          exact ⟨k, by omega, l ++ [q], sF, hargs, by omega, hiF, by simp; omega, _, (((iF.push _).kill b (by omega)).push _).setn _, .inr ⟨by simp, HF.next + 1, true, by simp, by omega, by simp [Ne.symm n3F, hqq, eqsCells_append]⟩⟩
    · have heC : ¬ sC.err = 0 := by rw [hsD] at heD; exact heD
      simp [heD, t0]
      have hxe0 : True := trivial
      have hiE := hiD
      obtain ⟨HE, hHE⟩ : ∃ x, x = HE0 := ⟨_, rfl⟩
      rw [← hHE]
      rw [← hHE] at iD tD hED nBD
      have hEE := hED
      have nBE := nBD
      have tE2 := tD
      refine does_use (p_want hW (W := W) (s := sD) (iD.push _).P hiD [[59]] _ 1 false (by simp) (by have := iD.np; simpa using this) (by simp)) ?_
      rintro _ HF ⟨rfl, hHF⟩
      obtain ⟨sF, hsF⟩ : ∃ x, x = Syn.want1 W sD [59] := ⟨_, rfl⟩
      have hiF : sF.i < W.length := by rw [hsF]; exact want1_ok hW hiD _
      have hmF : mu W sF ≤ mu W sD := by rw [hsF]; exact want1_mu W sD _
      have iF : NI W H p HF sF [.str nm, vsV ins, vsV outs, vsV locs, E, .int .i64 pos] := by
        rw [hHF, hsF]; exact (iD.push _).setp _
      have nBF : HB.next < HF.next := by rw [hHF]; simp; omega
      have tF : HF.get HB.next = some (.cells (eqCells ⟨nmq, .zero, posq⟩)) := by
        rw [hHF]; simp [tbp, Nat.ne_of_lt nBE, tE2, eqCells, exCells_mk, kidsV, Syn.Ex.zero]
      have hEF : EqsB (H.next + 2) HB.next HF E l := hEE.to fun b b1 b2 => by
        have e : b ≠ p := by have := iI.l; omega
        have e3 : b ≠ HB.next := by omega
        have e4 : b ≠ HE.next := by omega
        rw [hHF]; simp [e, e3, e4]
      clear hHF
      have hql := eqCells_len ⟨nmq, .zero, posq⟩
      have hqs : ∀ x ∈ eqCells ⟨nmq, .zero, posq⟩, x.scalar = true := by simp [eqCells, exCells_mk, Syn.Ex.zero]
      have hqq : eqsCells [⟨nmq, .zero, posq⟩] = eqCells ⟨nmq, .zero, posq⟩ := by simp [eqsCells]
      have hstep : Syn.eqsL W (k + 1) l s' = Syn.eqsL W k (l ++ [⟨nmq, .zero, posq⟩]) sF := by
        rw [Syn.eqsL, if_pos ⟨he, hk⟩]
        simp only [hxB, ← hsC, ← hsD, hxe0, ← hposq]
        simp only [if_neg heC, ← hsF]
      rw [hstep] at hargs
      obtain ⟨q, hq⟩ : ∃ q : Syn.Eqn, q = ⟨nmq, .zero, posq⟩ := ⟨_, rfl⟩
      rw [← hq] at tF hql hqs hqq hargs
      obtain ⟨qc, hqc⟩ : ∃ qc, qc = eqCells q := ⟨_, rfl⟩
      rw [← hqc] at tF hql hqs hqq
      have g7 : List.take 7 qc = qc := List.take_of_length_le (by omega)
      have hqs' : (∀ x : AV, x ∈ qc → x.scalar = true) = True := eq_true hqs
      have iFn := iF.n
      have iFg := iF.g
      have tbF : HB.next ≠ HF.next := by omega
      have n1F : H.next + 1 ≠ HF.next := by omega
      have n2F : H.next + 1 ≠ HF.next + 1 := by omega
      have n3F : H.next ≠ HF.next := by omega
      rcases hEF with ⟨rfl, rfl⟩ | ⟨hln, b, opn, rfl, hbn, hbB, hb⟩
      · simp [iFg, tF, n1F, n2F, n3F, tbF, t0, t2, t3, hql, g7, hqs']
        exact ⟨k, by omega, [q], sF, by simpa using hargs, by omega, hiF, by simp only [List.length_nil, List.length_cons] at hlm ⊢; omega, _, ((iF.push _).push _).setn _, .inr ⟨by simp, HF.next + 1, true, by simp, by omega, by simp [Ne.symm n3F, hqq]⟩⟩
      · have bF : b ≠ HF.next := by omega
        have g1 : List.take (l.length * 7) (eqsCells l) = eqsCells l := by rw [List.take_of_length_le]; rw [eqsCells_len]; omega
        have g2 : (eqsCells l).length = l.length * 7 := eqsCells_len l
        have hgrow : ¬ (l.length + 1 ≤ l.length) := by omega
        have g3 : (l.length + 1) * 96 ≤ 140737488355328 := by omega
        have g4 : l.length ≤ 4611686018427387903 := by omega
        have nb : H.next + 1 ≠ b := by omega
        have nbF : HF.next + 1 ≠ b := by omega
        cases opn
        · simp [iFg, tF, n1F, n2F, n3F, tbF, t0, t2, t3, hql, g7, hqs', hb, bF, g1, g2, g3, g4, hgrow]
          exact ⟨k, by omega, l ++ [q], sF, hargs, by omega, hiF, by simp; omega, _, ((iF.push _).push _).setn _, .inr ⟨by simp, HF.next + 1, true, by simp, by omega, by simp [Ne.symm n3F, hqq, eqsCells_append]⟩⟩
        · simp [iFg, tF, n1F, n2F, n3F, tbF, t0, t2, t3, hql, g7, hqs', hb, bF, g1, g2, g3, g4, hgrow, nb]
          exact ⟨k, by omega, l ++ [q], sF, hargs, by omega, hiF, by simp; omega, _, (((iF.push _).kill b (by omega)).push _).setn _, .inr ⟨by simp, HF.next + 1, true, by simp, by omega, by simp [Ne.symm n3F, hqq, eqsCells_append]⟩⟩
  · simp
    refine does_use (p_locals' hW i8.P hi8) ?_
    rintro _ H9 ⟨rfl, hH9⟩
    have hi9 := (kp_locals hW s8 hi8).1
    rcases hx9 : Syn.locals_ W s8 with ⟨locs, s9⟩
    rw [hx9] at hH9 hi9
    simp only at hH9 hi9
    have i9 : NI W H p H9 s9 [.str nm, vsV ins, vsV outs, .nilsl, .nilsl, .int .i64 pos] := by
      rw [hH9]; exact i8.setp _
    clear hH9
    simp [i9.g]
    have j9 := i9.setn [.str nm, vsV ins, vsV outs, vsV locs, .nilsl, .int .i64 pos]
    refine does_use (p_want hW (W := W) (s := s9) (j9.push _).P hi9 [[108, 101, 116]] _ 1 false (by simp) j9.np (by simp)) ?_
    rintro _ HA ⟨rfl, hHA⟩
    obtain ⟨sA, hsA⟩ : ∃ x, x = Syn.want1 W s9 [108, 101, 116] := ⟨_, rfl⟩
    have hiA : sA.i < W.length := by rw [hsA]; exact want1_ok hW hi9 _
    have iA : NI W H p HA sA [.str nm, vsV ins, vsV outs, vsV locs, .nilsl, .int .i64 pos] := by
      rw [hHA, hsA]; exact (j9.push _).setp _
    clear hHA
    simp
    refine aws_loopw (fun m T' H' => ∃ l s' E, Syn.eqsL W m l s' = Syn.eqsL W (W.length + 1) [] sA ∧ mu W s' < m ∧ s'.i < W.length ∧ l.length + m ≤ W.length + 1 ∧
      T' 0 = .ptr p 0 ∧ T' 2 = .ptr H.next 0 ∧ T' 3 = .ptr (H.next + 1) 0 ∧ NI W H p H' s' [.str nm, vsV ins, vsV outs, vsV locs, E, .int .i64 pos] ∧ EqsR (H.next + 2) H' E l) (W.length + 1)
      ⟨[], sA, .nilsl, rfl, by unfold mu; split <;> omega, hiA, by simp, by simp, by simp, by simp, iA, .inl ⟨rfl, rfl⟩⟩ ?_
    rintro m T H1 ⟨l, s', E, hargs, hmu, hi', hlm, t0, t2, t3, iI, hE0⟩ hw1 _
    have hE : EqsB (H.next + 2) H1.next H1 E l := by
      rcases hE0 with h | ⟨hln, b, opn, h1, h2, h3⟩
      · exact .inl h
      · exact .inr ⟨hln, b, opn, h1, h2, next_lt hw1 h3, h3⟩
    obtain ⟨k, rfl⟩ : ∃ k, m = k + 1 := ⟨m - 1, by omega⟩
    simp [t0]
    refine does_use (p_ok iI.P) ?_
    rintro _ HX ⟨rfl, hHX⟩
    rw [hHX]
    clear hHX HX
    by_cases he : s'.err = 0
    rotate_left
    · have hend : Syn.eqsL W (k + 1) l s' = (l, s') := by rw [Syn.eqsL, if_neg (fun h => he h.1)]
      rw [hend] at hargs
      simp [he, t0, t2, t3]
      refine does_use (p_want hW (W := W) (s := s') (iI.push _).P hi' [[116, 101, 108]] _ 1 false (by simp) iI.np (by simp)) ?_
      rintro _ HY ⟨rfl, hHY⟩
      obtain ⟨sY, hsY⟩ : ∃ x, x = Syn.want1 W s' [116, 101, 108] := ⟨_, rfl⟩
      have hiY : sY.i < W.length := by rw [hsY]; exact want1_ok hW hi' _
      have iY : NI W H p HY sY [.str nm, vsV ins, vsV outs, vsV locs, E, .int .i64 pos] := by
        rw [hHY, hsY]; exact (iI.push _).setp _
      have hEY : EqsB (H.next + 2) H1.next HY E l := hE.to fun b b1 b2 => by
        have e : b ≠ p := by have := iI.l; omega
        have e3 : b ≠ H1.next := by omega
        rw [hHY]; simp [e, e3]
      clear hHY
      simp [t0]
      refine does_use (p_take hW iY.P hiY [59]) ?_
      rintro _ HZ ⟨rfl, hHZ⟩
      rcases hxZ : Syn.take W sY [59] with ⟨bz, sZ⟩
      rw [hxZ] at hHZ
      simp only at hHZ
      have iZ : NI W H p HZ sZ [.str nm, vsV ins, vsV outs, vsV locs, E, .int .i64 pos] := by
        rw [hHZ]; exact iY.setp _
      have hEZ : EqsB (H.next + 2) H1.next HZ E l := hEY.to fun b b1 b2 => by
        have e : b ≠ p := by have := iI.l; omega
        rw [hHZ]; simp [e]
      clear hHZ
      have iZz := iZ.z
      unfold z6 at iZz
      have hnode : Syn.node W s = (⟨nm, ins, outs, locs, l, pos⟩, sZ) := by
        simp only [Syn.node, ← hs0, ← hs1, hx2, ← hs3, hx4, ← hs5, hx6, ← hs7, hx8, if_true, hx9, ← hsA, ← hargs, ← hsY, hxZ, ← hpos]
        try rfl
      rw [hnode]
      have hEsc : E.scalar = true ∧ E.cells = [E] := by
        rcases hE with ⟨_, rfl⟩ | ⟨_, b, opn, rfl, _⟩ <;> exact ⟨rfl, rfl⟩
      simp [t2, t3, iZ.g, iZz, hEsc.1, hEsc.2]
      refine ⟨?_, by simp [hp1, iZ.P], fun j y j1 j2 => ?_⟩
      · rcases hEZ with h | ⟨hln, b, opn, h1, h2, _, h3⟩
        · exact .inl h
        · have e : b ≠ H.next := by omega
          exact .inr ⟨hln, b, opn, h1, by omega, by simp [e, h3]⟩
      · have := old j y j2
        have e : j ≠ H.next := by omega
        simp [e, iZ.k j y this j1 j2]
    simp [he, t0]
    refine does_use (p_word iI.P hi') ?_
    rintro _ HX ⟨rfl, hHX⟩
    rw [hHX]
    clear hHX HX
    by_cases hk : (Syn.at_ W s').2.kind = 1
    rotate_left
    · have hend : Syn.eqsL W (k + 1) l s' = (l, s') := by rw [Syn.eqsL, if_neg (fun h => hk h.2)]
      have hk' : ((((Syn.at_ W s').2.kind : Nat) : Int) = 1) = False := eq_false (by omega)
      rw [hend] at hargs
      simp [wdCells, hk', t0, t2, t3]
      refine does_use (p_want hW (W := W) (s := s') (iI.push _).P hi' [[116, 101, 108]] _ 1 false (by simp) iI.np (by simp)) ?_
      rintro _ HY ⟨rfl, hHY⟩
      obtain ⟨sY, hsY⟩ : ∃ x, x = Syn.want1 W s' [116, 101, 108] := ⟨_, rfl⟩
      have hiY : sY.i < W.length := by rw [hsY]; exact want1_ok hW hi' _
      have iY : NI W H p HY sY [.str nm, vsV ins, vsV outs, vsV locs, E, .int .i64 pos] := by
        rw [hHY, hsY]; exact (iI.push _).setp _
      have hEY : EqsB (H.next + 2) H1.next HY E l := hE.to fun b b1 b2 => by
        have e : b ≠ p := by have := iI.l; omega
        have e3 : b ≠ H1.next := by omega
        rw [hHY]; simp [e, e3]
      clear hHY
      simp [t0]
      refine does_use (p_take hW iY.P hiY [59]) ?_
      rintro _ HZ ⟨rfl, hHZ⟩
      rcases hxZ : Syn.take W sY [59] with ⟨bz, sZ⟩
      rw [hxZ] at hHZ
      simp only at hHZ
      have iZ : NI W H p HZ sZ [.str nm, vsV ins, vsV outs, vsV locs, E, .int .i64 pos] := by
        rw [hHZ]; exact iY.setp _
      have hEZ : EqsB (H.next + 2) H1.next HZ E l := hEY.to fun b b1 b2 => by
        have e : b ≠ p := by have := iI.l; omega
        rw [hHZ]; simp [e]
      clear hHZ
      have iZz := iZ.z
      unfold z6 at iZz
      have hnode : Syn.node W s = (⟨nm, ins, outs, locs, l, pos⟩, sZ) := by
        simp only [Syn.node, ← hs0, ← hs1, hx2, ← hs3, hx4, ← hs5, hx6, ← hs7, hx8, if_true, hx9, ← hsA, ← hargs, ← hsY, hxZ, ← hpos]
        try rfl
      rw [hnode]
      have hEsc : E.scalar = true ∧ E.cells = [E] := by
        rcases hE with ⟨_, rfl⟩ | ⟨_, b, opn, rfl, _⟩ <;> exact ⟨rfl, rfl⟩
      simp [t2, t3, iZ.g, iZz, hEsc.1, hEsc.2]
      refine ⟨?_, by simp [hp1, iZ.P], fun j y j1 j2 => ?_⟩
      · rcases hEZ with h | ⟨hln, b, opn, h1, h2, _, h3⟩
        · exact .inl h
        · have e : b ≠ H.next := by omega
          exact .inr ⟨hln, b, opn, h1, by omega, by simp [e, h3]⟩
      · have := old j y j2
        have e : j ≠ H.next := by omega
        simp [e, iZ.k j y this j1 j2]
    have hk' : ((((Syn.at_ W s').2.kind : Nat) : Int) = 1) = True := eq_true (by omega)
    simp [wdCells, hk', t0]
    refine does_use (p_word iI.P hi') ?_
    rintro _ HX ⟨rfl, hHX⟩
    rw [hHX]
    clear hHX HX
    simp [wdCells, t0]
    refine does_usew (p_name hW iI.P hi') ?_
    rintro _ HB ⟨rfl, hHB⟩ hwB _
    have hiB := (kp_name hW s' hi').1
    have hmB := name_lt he hk hi'
    rcases hxB : Syn.name W s' with ⟨nmq, sB⟩
    rw [hxB] at hHB hiB hmB
    simp only at hHB hiB hmB
    have iB : NI W H p HB sB [.str nm, vsV ins, vsV outs, vsV locs, E, .int .i64 pos] := by
      rw [hHB]; exact iI.setp _
    have hE' : EqsB (H.next + 2) HB.next HB E l := by
      rcases hE with h | ⟨hln, b, opn, h1, h2, _, h3⟩
      · exact .inl h
      · have e : b ≠ p := by have := iI.l; omega
        have h4 : HB.get b = some (.cells (eqsCells l)) := by rw [hHB]; simp [e, h3]
        exact .inr ⟨hln, b, opn, h1, h2, next_lt hwB h4, h4⟩
    clear hE hHB
    obtain ⟨posq, hposq⟩ : ∃ x, x = (Syn.at_ W s').1 := ⟨_, rfl⟩
    rw [← hposq]
    simp [t0]
    have iB2 := iB.push (.cells [.str nmq, .str [], .str [], .int .i64 0, .int .i64 0, .nilsl, .int .i64 posq])
    refine does_use (p_want hW (W := W) (s := sB) (iB2.push _).P hiB [[61]] _ 1 false (by simp) (by have := iB2.np; simpa using this) (by simp)) ?_
    rintro _ HC ⟨rfl, hHC⟩
    obtain ⟨sC, hsC⟩ : ∃ x, x = Syn.want1 W sB [61] := ⟨_, rfl⟩
    have hiC : sC.i < W.length := by rw [hsC]; exact want1_ok hW hiB _
    have hmC : mu W sC ≤ mu W sB := by rw [hsC]; exact want1_mu W sB _
    have iC : NI W H p HC sC [.str nm, vsV ins, vsV outs, vsV locs, E, .int .i64 pos] := by
      rw [hHC, hsC]; exact (iB2.push _).setp _
    have tbp := iB.np
    have nBC : HB.next < HC.next := by rw [hHC]; simp; omega
    have tC : HC.get HB.next = some (.cells [.str nmq, .str [], .str [], .int .i64 0, .int .i64 0, .nilsl, .int .i64 posq]) := by
      rw [hHC]; simp [tbp]
    have hEC : EqsB (H.next + 2) HB.next HC E l := hE'.to fun b b1 b2 => by
      have e : b ≠ p := by have := iI.l; omega
      have e3 : b ≠ HB.next := by omega
      have e4 : b ≠ HB.next + 1 := by omega
      rw [hHC]; simp [e, e3, e4]
    clear hE' hHC
    obtain ⟨sD, hsD⟩ : ∃ x : Syn.St, x = { sC with parts := 0 } := ⟨_, rfl⟩
    have hiD : sD.i < W.length := by rw [hsD]; exact hiC
    have hmD : mu W sD ≤ mu W sC := by rw [hsD]; exact Nat.le_refl _
    have stD : stCells W sD = [.vsl (flatW W) W.length, .int .i64 sC.i, .int .i64 sC.names, .int .i64 0, .int .i64 sC.err, .int .i64 sC.pos] := by rw [hsD]; rfl
    have hPC := iC.P
    unfold stCells at hPC
    simp [hPC, t0]
    rw [← stD]
    have iD := iC.setp sD
    obtain ⟨HE0, hHE0⟩ : ∃ x, x = HC.set p (.cells (stCells W sD)) := ⟨_, rfl⟩
    rw [← hHE0] at iD ⊢
    have hED : EqsB (H.next + 2) HB.next HE0 E l := hEC.to fun b b1 b2 => by
      have e : b ≠ p := by have := iI.l; omega
      rw [hHE0]; simp [e]
    have tD : HE0.get HB.next = some (.cells [.str nmq, .str [], .str [], .int .i64 0, .int .i64 0, .nilsl, .int .i64 posq]) := by rw [hHE0]; simp [tbp, tC]
    have nBD : HB.next < HE0.next := by rw [hHE0]; simpa using nBC
    clear hHE0 hEC tC
    refine does_use (p_ok iD.P) ?_
    rintro _ HX ⟨rfl, hHX⟩
    rw [hHX]
    clear hHX HX
    by_cases heD : sD.err = 0
    · have heC : sC.err = 0 := by rw [hsD] at heD; exact heD
      simp [heD, t0]
      refine does_use (p_top hW p _ sD iD.P hiD) ?_
      rintro _ HE ⟨rfl, hHE⟩
      have hiE := (top_keeps hW).i sD hiD
      have hmE := (top_keeps hW).mu sD hiD
      rcases hxe0 : (Syn.lv W 29).expr sD with ⟨⟨eop, enm, en, epos, eks⟩, sE⟩
      rw [hxe0] at hHE hiE hmE
      simp only at hHE hiE hmE
      have iE : NI W H p HE sE [.str nm, vsV ins, vsV outs, vsV locs, E, .int .i64 pos] := by
        rw [hHE]; exact iD.setp _
      have tE : HE.get HB.next = some (.cells [.str nmq, .str [], .str [], .int .i64 0, .int .i64 0, .nilsl, .int .i64 posq]) := by rw [hHE]; simp [tbp, tD]
      have hEE : EqsB (H.next + 2) HB.next HE E l := hED.to fun b b1 b2 => by
        have e : b ≠ p := by have := iI.l; omega
        rw [hHE]; simp [e]
      have nBE : HB.next < HE.next := by rw [hHE]; simpa using nBD
      clear hHE
      have iE2 := iE.sete HB.next (.cells [.str nmq, .str eop, .str enm, .int .i64 en, .int .i64 epos, kidsV eks, .int .i64 posq]) (by have := iB.n; omega)
      have tE2 : True := trivial
      simp [exCells_mk, tE, t0]
      refine does_use (p_want hW (W := W) (s := sE) (iE2.push _).P hiE [[59]] _ 1 false (by simp) (by have := iE2.np; simpa using this) (by simp)) ?_
      rintro _ HF ⟨rfl, hHF⟩
      obtain ⟨sF, hsF⟩ : ∃ x, x = Syn.want1 W sE [59] := ⟨_, rfl⟩
      have hiF : sF.i < W.length := by rw [hsF]; exact want1_ok hW hiE _
      have hmF : mu W sF ≤ mu W sE := by rw [hsF]; exact want1_mu W sE _
      have iF : NI W H p HF sF [.str nm, vsV ins, vsV outs, vsV locs, E, .int .i64 pos] := by
        rw [hHF, hsF]; exact (iE2.push _).setp _
      have nBF : HB.next < HF.next := by rw [hHF]; simp; omega
      have tF : HF.get HB.next = some (.cells (eqCells ⟨nmq, .mk eop enm en epos eks, posq⟩)) := by
        rw [hHF]; simp [tbp, Nat.ne_of_lt nBE, tE2, eqCells, exCells_mk, kidsV, Syn.Ex.zero]
      have hEF : EqsB (H.next + 2) HB.next HF E l := hEE.to fun b b1 b2 => by
        have e : b ≠ p := by have := iI.l; omega
        have e3 : b ≠ HB.next := by omega
        have e4 : b ≠ HE.next := by omega
        rw [hHF]; simp [e, e3, e4]
      clear hHF
      have hql := eqCells_len ⟨nmq, .mk eop enm en epos eks, posq⟩
      have hqs : ∀ x ∈ eqCells ⟨nmq, .mk eop enm en epos eks, posq⟩, x.scalar = true := by simp [eqCells, exCells_mk, Syn.Ex.zero]
      have hqq : eqsCells [⟨nmq, .mk eop enm en epos eks, posq⟩] = eqCells ⟨nmq, .mk eop enm en epos eks, posq⟩ := by simp [eqsCells]
      have hstep : Syn.eqsL W (k + 1) l s' = Syn.eqsL W k (l ++ [⟨nmq, .mk eop enm en epos eks, posq⟩]) sF := by
        rw [Syn.eqsL, if_pos ⟨he, hk⟩]
        simp only [hxB, ← hsC, ← hsD, hxe0, ← hposq]
        simp only [if_pos heC, ← hsF]
      rw [hstep] at hargs
      obtain ⟨q, hq⟩ : ∃ q : Syn.Eqn, q = ⟨nmq, .mk eop enm en epos eks, posq⟩ := ⟨_, rfl⟩
      rw [← hq] at tF hql hqs hqq hargs
      obtain ⟨qc, hqc⟩ : ∃ qc, qc = eqCells q := ⟨_, rfl⟩
      rw [← hqc] at tF hql hqs hqq
      have g7 : List.take 7 qc = qc := List.take_of_length_le (by omega)
      have hqs' : (∀ x : AV, x ∈ qc → x.scalar = true) = True := eq_true hqs
      have iFn := iF.n
      have iFg := iF.g
      have tbF : HB.next ≠ HF.next := by omega
      have n1F : H.next + 1 ≠ HF.next := by omega
      have n2F : H.next + 1 ≠ HF.next + 1 := by omega
      have n3F : H.next ≠ HF.next := by omega
      rcases hEF with ⟨rfl, rfl⟩ | ⟨hln, b, opn, rfl, hbn, hbB, hb⟩
      · simp [iFg, tF, n1F, n2F, n3F, tbF, t0, t2, t3, hql, g7, hqs']
        exact ⟨k, by omega, [q], sF, by simpa using hargs, by omega, hiF, by simp only [List.length_nil, List.length_cons] at hlm ⊢; omega, _, ((iF.push _).push _).setn _, .inr ⟨by simp, HF.next + 1, true, by simp, by omega, by simp [Ne.symm n3F, hqq]⟩⟩
      · have bF : b ≠ HF.next := by omega
        have g1 : List.take (l.length * 7) (eqsCells l) = eqsCells l := by rw [List.take_of_length_le]; rw [eqsCells_len]; omega
        have g2 : (eqsCells l).length = l.length * 7 := eqsCells_len l
        have hgrow : ¬ (l.length + 1 ≤ l.length) := by omega
        have g3 : (l.length + 1) * 96 ≤ 140737488355328 := by omega
        have g4 : l.length ≤ 4611686018427387903 := by omega
        have nb : H.next + 1 ≠ b := by omega
        have nbF : HF.next + 1 ≠ b := by omega
        cases opn
        · simp [iFg, tF, n1F, n2F, n3F, tbF, t0, t2, t3, hql, g7, hqs', hb, bF, g1, g2, g3, g4, hgrow]
          exact ⟨k, by omega, l ++ [q], sF, hargs, by omega, hiF, by simp; omega, _, ((iF.push _).push _).setn _, .inr ⟨by simp, HF.next + 1, true, by simp, by omega, by simp [Ne.symm n3F, hqq, eqsCells_append]⟩⟩
        · simp [iFg, tF, n1F, n2F, n3F, tbF, t0, t2, t3, hql, g7, hqs', hb, bF, g1, g2, g3, g4, hgrow, nb]
          exact ⟨k, by omega, l ++ [q], sF, hargs, by omega, hiF, by simp; omega, _, (((iF.push _).kill b (by omega)).push _).setn _, .inr ⟨by simp, HF.next + 1, true, by simp, by omega, by simp [Ne.symm n3F, hqq, eqsCells_append]⟩⟩
    · have heC : ¬ sC.err = 0 := by rw [hsD] at heD; exact heD
      simp [heD, t0]
      have hxe0 : True := trivial
      have hiE := hiD
      obtain ⟨HE, hHE⟩ : ∃ x, x = HE0 := ⟨_, rfl⟩
      rw [← hHE]
      rw [← hHE] at iD tD hED nBD
      have hEE := hED
      have nBE := nBD
      have tE2 := tD
      refine does_use (p_want hW (W := W) (s := sD) (iD.push _).P hiD [[59]] _ 1 false (by simp) (by have := iD.np; simpa using this) (by simp)) ?_
      rintro _ HF ⟨rfl, hHF⟩
      obtain ⟨sF, hsF⟩ : ∃ x, x = Syn.want1 W sD [59] := ⟨_, rfl⟩
      have hiF : sF.i < W.length := by rw [hsF]; exact want1_ok hW hiD _
      have hmF : mu W sF ≤ mu W sD := by rw [hsF]; exact want1_mu W sD _
      have iF : NI W H p HF sF [.str nm, vsV ins, vsV outs, vsV locs, E, .int .i64 pos] := by
        rw [hHF, hsF]; exact (iD.push _).setp _
      have nBF : HB.next < HF.next := by rw [hHF]; simp; omega
      have tF : HF.get HB.next = some (.cells (eqCells ⟨nmq, .zero, posq⟩)) := by
        rw [hHF]; simp [tbp, Nat.ne_of_lt nBE, tE2, eqCells, exCells_mk, kidsV, Syn.Ex.zero]
      have hEF : EqsB (H.next + 2) HB.next HF E l := hEE.to fun b b1 b2 => by
        have e : b ≠ p := by have := iI.l; omega
        have e3 : b ≠ HB.next := by omega
        have e4 : b ≠ HE.next := by omega
        rw [hHF]; simp [e, e3, e4]
      clear hHF
      have hql := eqCells_len ⟨nmq, .zero, posq⟩
      have hqs : ∀ x ∈ eqCells ⟨nmq, .zero, posq⟩, x.scalar = true := by simp [eqCells, exCells_mk, Syn.Ex.zero]
      have hqq : eqsCells [⟨nmq, .zero, posq⟩] = eqCells ⟨nmq, .zero, posq⟩ := by simp [eqsCells]
      have hstep : Syn.eqsL W (k + 1) l s' = Syn.eqsL W k (l ++ [⟨nmq, .zero, posq⟩]) sF := by
        rw [Syn.eqsL, if_pos ⟨he, hk⟩]
        simp only [hxB, ← hsC, ← hsD, hxe0, ← hposq]
        simp only [if_neg heC, ← hsF]
      rw [hstep] at hargs
      obtain ⟨q, hq⟩ : ∃ q : Syn.Eqn, q = ⟨nmq, .zero, posq⟩ := ⟨_, rfl⟩
      rw [← hq] at tF hql hqs hqq hargs
      obtain ⟨qc, hqc⟩ : ∃ qc, qc = eqCells q := ⟨_, rfl⟩
      rw [← hqc] at tF hql hqs hqq
      have g7 : List.take 7 qc = qc := List.take_of_length_le (by omega)
      have hqs' : (∀ x : AV, x ∈ qc → x.scalar = true) = True := eq_true hqs
      have iFn := iF.n
      have iFg := iF.g
      have tbF : HB.next ≠ HF.next := by omega
      have n1F : H.next + 1 ≠ HF.next := by omega
      have n2F : H.next + 1 ≠ HF.next + 1 := by omega
      have n3F : H.next ≠ HF.next := by omega
      rcases hEF with ⟨rfl, rfl⟩ | ⟨hln, b, opn, rfl, hbn, hbB, hb⟩
      · simp [iFg, tF, n1F, n2F, n3F, tbF, t0, t2, t3, hql, g7, hqs']
        exact ⟨k, by omega, [q], sF, by simpa using hargs, by omega, hiF, by simp only [List.length_nil, List.length_cons] at hlm ⊢; omega, _, ((iF.push _).push _).setn _, .inr ⟨by simp, HF.next + 1, true, by simp, by omega, by simp [Ne.symm n3F, hqq]⟩⟩
      · have bF : b ≠ HF.next := by omega
        have g1 : List.take (l.length * 7) (eqsCells l) = eqsCells l := by rw [List.take_of_length_le]; rw [eqsCells_len]; omega
        have g2 : (eqsCells l).length = l.length * 7 := eqsCells_len l
        have hgrow : ¬ (l.length + 1 ≤ l.length) := by omega
        have g3 : (l.length + 1) * 96 ≤ 140737488355328 := by omega
        have g4 : l.length ≤ 4611686018427387903 := by omega
        have nb : H.next + 1 ≠ b := by omega
        have nbF : HF.next + 1 ≠ b := by omega
        cases opn
        · simp [iFg, tF, n1F, n2F, n3F, tbF, t0, t2, t3, hql, g7, hqs', hb, bF, g1, g2, g3, g4, hgrow]
          exact ⟨k, by omega, l ++ [q], sF, hargs, by omega, hiF, by simp; omega, _, ((iF.push _).push _).setn _, .inr ⟨by simp, HF.next + 1, true, by simp, by omega, by simp [Ne.symm n3F, hqq, eqsCells_append]⟩⟩
        · simp [iFg, tF, n1F, n2F, n3F, tbF, t0, t2, t3, hql, g7, hqs', hb, bF, g1, g2, g3, g4, hgrow, nb]
          exact ⟨k, by omega, l ++ [q], sF, hargs, by omega, hiF, by simp; omega, _, (((iF.push _).kill b (by omega)).push _).setn _, .inr ⟨by simp, HF.next + 1, true, by simp, by omega, by simp [Ne.symm n3F, hqq, eqsCells_append]⟩⟩
theorem ndCells_lt (m : Nat) (n : Syn.Nd) : AV.allLt m (ndCells n) = true := by
  have h : (eqsV n.eqs).idLt m = true := by
    unfold eqsV
    split
    · rfl
    · simpa [AV.idLt] using eqsCells_lt m n.eqs
  simp [ndCells, AV.allLt, AV.idLt, vsV_lt, h]
theorem p_node' {W : Syn.Ws} (hW : WsOk W) {s : Syn.St} {p : Nat} {H : AHeap} (h : PAt H p W s) (hi : s.i < W.length) : Does Tryz.prog G 24 [.ptr p 0] H fun r H' => r = .agg (ndCells (Syn.node W s).1) ∧ H' = H.set p (.cells (stCells W (Syn.node W s).2)) := by
  refine Does.deep (p_node hW h hi) ?_
  rintro hw ha r H1 ⟨E, rfl, h1, h2, h3⟩
  refine ⟨_, H.set p (.cells (stCells W (Syn.node W s).2)), .agg (.cons (.old rfl) (.cons (.old (vsV_lt _ _)) (.cons (.old (vsV_lt _ _)) (.cons (.old (vsV_lt _ _)) (.cons h1.res (.cons (.old rfl) .nil)))))), rfl, set_back hw h h2 h3, rfl, rfl⟩
theorem eqsL_kp {W : Syn.Ws} (hW : WsOk W) : ∀ (m : Nat) (l : List Syn.Eqn) (s : Syn.St), Kp W s (Syn.eqsL W m l s).2
  | 0, l, s => Kp.refl s
  | m + 1, l, s => by
    unfold Syn.eqsL
    split
    · have h1 := kp_name hW s
      rcases hx : Syn.name W s with ⟨nm, s1⟩
      rw [hx] at h1
      simp only at h1 ⊢
      have h2 := kp_want1 hW s1 [61]
      have h3 : Kp W (Syn.want1 W s1 [61]) { Syn.want1 W s1 [61] with parts := 0 } := fun hi => ⟨hi, Nat.le_refl _⟩
      have h4 := (top_keeps hW).kp { Syn.want1 W s1 [61] with parts := 0 }
      split
      · rcases hy : (Syn.lv W 29).expr { Syn.want1 W s1 [61] with parts := 0 } with ⟨e, s2⟩
        rw [hy] at h4
        simp only at h4 ⊢
        exact h1.trans (h2.trans (h3.trans (h4.trans ((kp_want1 hW s2 [59]).trans (eqsL_kp hW m _ _)))))
      · exact h1.trans (h2.trans (h3.trans ((kp_want1 hW _ [59]).trans (eqsL_kp hW m _ _))))
    · exact Kp.refl s
theorem kp_node {W : Syn.Ws} (hW : WsOk W) (s : Syn.St) : Kp W s (Syn.node W s).2 := by
  have h0 : Kp W s { s with names := 0 } := fun hi => ⟨hi, Nat.le_refl _⟩
  have A := ((((((((h0.trans (kp_want1 hW _ [110, 111, 100, 101])).trans (kp_name hW _)).trans (kp_want1 hW _ [40])).trans (kp_decls hW _)).trans (kp_want hW [[41], [114, 101, 116, 117, 114, 110, 115], [40]] _)).trans (kp_decls hW _)).trans (kp_want hW [[41], [59]] _)).trans (kp_take hW _ [118, 97, 114]))
  have fin : ∀ x : List Syn.Va × Syn.St, Kp W s x.2 → Kp W s (Syn.take W (Syn.want1 W (Syn.eqsL W (W.length + 1) [] (Syn.want1 W x.2 [108, 101, 116])).2 [116, 101, 108]) [59]).2 := fun x h9 =>
    h9.trans ((kp_want1 hW x.2 _).trans ((eqsL_kp hW _ _ _).trans ((kp_want1 hW _ _).trans (kp_take hW _ _))))
  unfold Syn.node
  simp only
  refine fin _ ?_
  split
  · exact A.trans (kp_locals hW _)
  · exact A
end Go.Proofs.YthmnpnbcdoemfaaGreatDoor

namespace Go.Proofs.YthmnpnbcdoemfaaGreatDoor
open Go Go.Abs Go.Lex
set_option linter.unusedSimpArgs false
variable {G : Nat → Option AV}
def ndsCells : List Syn.Nd → List AV
  | [] => []
  | n :: l => ndCells n ++ ndsCells l
theorem ndsCells_len : ∀ l : List Syn.Nd, (ndsCells l).length = l.length * 6
  | [] => rfl
  | n :: l => by rw [ndsCells, List.length_append, ndsCells_len l]; simp [ndCells]; omega
theorem ndsCells_append : ∀ a b : List Syn.Nd, ndsCells (a ++ b) = ndsCells a ++ ndsCells b
  | [], b => rfl
  | n :: a, b => by rw [List.cons_append, ndsCells, ndsCells, ndsCells_append a b, List.append_assoc]
theorem ndsCells_lt (m : Nat) : ∀ l : List Syn.Nd, AV.allLt m (ndsCells l) = true
  | [] => rfl
  | n :: l => by rw [ndsCells, allLt_app, ndsCells_lt m l, ndCells_lt]; rfl
theorem eqsV_scalar (l : List Syn.Eqn) : (eqsV l).scalar = true := by unfold eqsV; split <;> rfl
theorem ndCells_scalar (n : Syn.Nd) : ∀ x ∈ ndCells n, x.scalar = true := by simp [ndCells, eqsV_scalar]
def ndsV (l : List Syn.Nd) : AV := if l.isEmpty then .nilsl else .vsl (ndsCells l) l.length
def NdsR (n : Nat) (H' : AHeap) (r : AV) (l : List Syn.Nd) : Prop := (l = [] ∧ r = .nilsl) ∨ l ≠ [] ∧ ∃ b op, r = .sl b 0 6 l.length l.length op ∧ n ≤ b ∧ H'.get b = some (.cells (ndsCells l))
theorem NdsR.res {n : Nat} {H' : AHeap} {r : AV} {l : List Syn.Nd} (h : NdsR n H' r l) : ResV H'.get n r (ndsV l) := by
  rcases h with ⟨rfl, rfl⟩ | ⟨hl, b, op, rfl, hb, hg⟩
  · exact .old rfl
  · have : ndsV l = .vsl (ndsCells l) l.length := by unfold ndsV; rw [if_neg (by simpa using hl)]
    rw [this]
    refine .sl hb hg ?_
    rw [List.drop_zero, List.take_of_length_le (by rw [ndsCells_len]; omega)]
    exact ResL.old (ndsCells_lt _ _)
theorem flatW_snoc : ∀ (l : List (Nat × Wd)) (n : Nat), flatW (l ++ [(n, ⟨0, [], 0⟩)]) = flatW l ++ [.int .i64 0, .str [], .int .i64 0, .int .i64 n]
  | [], n => rfl
  | (i, w) :: l, n => by rw [List.cons_append, flatW, flatW, flatW_snoc l n, List.append_assoc]
theorem sum_ge : ∀ l : List (Nat × Wd), (∀ w ∈ l, Wok w.2) → l.length ≤ (l.map fun w => w.2.text.length).sum
  | [], _ => by simp
  | w :: l, h => by
    have h1 := sum_ge l fun x hx => h x (by simp [hx])
    obtain ⟨s, hs⟩ := h w (by simp)
    cases s with
    | nil => simp [wordS] at hs
    | cons c q =>
      have h2 : w.2.text.length ≠ 0 := by simpa using (wordS_text hs).2
      simp only [List.length_cons, List.map_cons, List.sum_cons]
      omega
theorem wsOk_of {t : Bs} {l : List (Nat × Wd)} (ht : ¬ 16384 < t.length) (hc : cutS t.length t = .ok l) : WsOk (l ++ [(t.length, ⟨0, [], 0⟩)]) := by
  obtain ⟨h1, h2, h3⟩ := cut_words (t.length + 1) t (by omega) l hc
  have h4 := sum_ge l h1
  refine ⟨by simp; omega, fun i hi hk => ?_⟩
  simp only [List.length_append, List.length_singleton] at hi ⊢
  rcases Nat.lt_or_ge i l.length with g | g
  · omega
  · have : i = l.length := by omega
    subst this
    simp at hk
def ParseR (H : AHeap) (t : Bs) (r : AV) (H' : AHeap) : Prop := (∀ j x, H.get j = some x → H'.get j = some x) ∧ match Syn.parse t with
  | .ok ns => ∃ E, r = .tuple [E, .agg [.int .i64 0, .int .i64 0]] ∧ NdsR H.next H' E ns
  | .error (e, n) => r = .tuple [.nilsl, .agg [.int .i64 e, .int .i64 n]]
set_option maxHeartbeats 8000000 in
set_option maxRecDepth 100000 in
theorem p_parse_live (t : Bs) (hG : HasErr G) (H : AHeap) (hbig : t.length < 9223372036854775808) : Does Tryz.prog G 11 [.str t] H (ParseR H t) := by
  refine Does.wf Tryz.call11 fun hw _ => ?_
  have old : ∀ j x, H.get j = some x → j < H.next := fun j x hj => next_lt hw hj
  refine does_f Tryz.call11 Tryz.func11 rfl (by simp [Tryz.f11]) ?_
  simp
  refine does_use (cut_does t hG _ hbig) ?_
  rintro _ HX ⟨rfl, hHX⟩
  rw [hHX]
  clear hHX HX
  by_cases hL : 16384 < t.length
  · have hans : cutAns t = .tuple [.nilsl, .agg [.int .i64 2, .int .i64 t.length]] := by unfold cutAns; rw [if_pos hL]
    have hpar : Syn.parse t = .error (2, t.length) := by unfold Syn.parse; rw [if_pos hL]
    rw [hans]
    simp
    refine aw_drawn [(0, 0)] mixedOrders (by kernel_rfl) ?_
    intro es hes
    simp [rds, heapF]
    refine ⟨by subst hes; exact ⟨by kernel_rfl, by kernel_rfl⟩, ?_⟩
    refine ⟨fun j x hj => ?_, by rw [hpar]; rfl⟩
    have := old j x hj
    have e1 : j ≠ H.next := by omega
    have e2 : j ≠ H.next + 1 := by omega
    simp [e1, e2, hj]
  · cases hc : cutS t.length t with
    | error e =>
      have hans : cutAns t = .tuple [.nilsl, .agg [.int .i64 7, .int .i64 e]] := by unfold cutAns; rw [if_neg hL, hc]
      have hpar : Syn.parse t = .error (7, e) := by unfold Syn.parse; rw [if_neg hL, hc]
      rw [hans]
      simp
      refine aw_drawn [(0, 0)] mixedOrders (by kernel_rfl) ?_
      intro es hes
      simp [rds, heapF]
      refine ⟨by subst hes; exact ⟨by kernel_rfl, by kernel_rfl⟩, ?_⟩
      refine ⟨fun j x hj => ?_, by rw [hpar]; rfl⟩
      have := old j x hj
      have e1 : j ≠ H.next := by omega
      have e2 : j ≠ H.next + 1 := by omega
      simp [e1, e2, hj]
    | ok L =>
      obtain ⟨W, hWd⟩ : ∃ W, W = L ++ [(t.length, ⟨0, [], 0⟩)] := ⟨_, rfl⟩
      have hW : WsOk W := by rw [hWd]; exact wsOk_of hL hc
      have hans : cutAns t = .tuple [.vsl (flatW W) W.length, .agg [.int .i64 0, .int .i64 0]] := by
        unfold cutAns; rw [if_neg hL, hc, hWd]
        simp [flatW_snoc]
      have hWl : 0 < W.length := by rw [hWd]; simp
      have hpar : Syn.parse t = (if (Syn.nodesL W 33 [] ⟨0, 0, 0, 0, 0⟩).2.err = 0 then .ok (Syn.nodesL W 33 [] ⟨0, 0, 0, 0, 0⟩).1 else .error ((Syn.nodesL W 33 [] ⟨0, 0, 0, 0, 0⟩).2.err, (Syn.nodesL W 33 [] ⟨0, 0, 0, 0, 0⟩).2.pos)) := by
        unfold Syn.parse
        rw [if_neg hL, hc]
        simp only
        rw [← hWd]
      rw [hans]
      simp
      obtain ⟨s0, hs0⟩ : ∃ s0 : Syn.St, s0 = ⟨0, 0, 0, 0, 0⟩ := ⟨_, rfl⟩
      have st0 : stCells W s0 = [.vsl (flatW W) W.length, .int .i64 0, .int .i64 0, .int .i64 0, .int .i64 0, .int .i64 0] := by rw [hs0]; rfl
      rw [← st0]
      rw [← hs0] at hpar
      have hi0 : s0.i < W.length := by rw [hs0]; exact hWl
      refine aws_loopw (fun m T' H' => ∃ l s', Syn.nodesL W m l s' = Syn.nodesL W 33 [] s0 ∧ l.length + m = 33 ∧ l.length ≤ 32 ∧ s'.i < W.length ∧ T' 6 = .ptr (H.next + 1 + 1) 0 ∧ T' 3 = .ptr H.next 0 ∧ H'.get (H.next + 1 + 1) = some (.cells (stCells W s')) ∧
        H'.get H.next = some (.cells [.int .i64 0, .int .i64 0]) ∧ NdsR (H.next + 3) H' (T' 7) l ∧ H.next + 3 ≤ H'.next ∧ ∀ j x, H.get j = some x → H'.get j = some x) 33 ?_ ?_
      · refine ⟨[], s0, rfl, rfl, by simp, hi0, by simp, by simp, by simp, ?_, .inl ⟨rfl, by simp⟩, by simp, fun j x hj => ?_⟩
        · have e1 : H.next ≠ H.next + 1 := by omega
          have e2 : H.next ≠ H.next + 1 + 1 := by omega
          simp [e1, e2]
        · have := old j x hj
          have e1 : j ≠ H.next := by omega
          have e2 : j ≠ H.next + 1 := by omega
          have e3 : j ≠ H.next + 1 + 1 := by omega
          simp [e1, e2, e3, hj]
      rintro m T H1 ⟨l, s', hargs, hlm, hl32, hi', t6, t3, hP, hz, hN, hnx, hk⟩ hw1 _
      have hP' : PAt H1 (H.next + 1 + 1) W s' := hP
      have hal : alen Tryz.prog 24 (T 7) = some (.int .i64 l.length) := by
        rcases hN with ⟨rfl, e⟩ | ⟨_, b, op, e, _⟩ <;> rw [e] <;> rfl
      have step0 : ∀ k, m = k + 1 → (¬ (s'.err = 0 ∧ (l = [] ∨ Syn.kind W s' ≠ 0))) → Syn.nodesL W 33 [] s0 = (l, s') := fun k hm h => by
        rw [← hargs, hm, Syn.nodesL, if_neg h]
      obtain ⟨k, rfl⟩ : ∃ k, m = k + 1 := ⟨m - 1, by omega⟩
      simp [t6, t3, -alen]
      refine does_use (p_ok hP') ?_
      rintro _ HX ⟨rfl, hHX⟩
      rw [hHX]
      clear hHX HX
      by_cases he : s'.err = 0
      rotate_left
      · simp [he, t6, t3, -alen]
        try simp [t6]
        refine does_use (p_ok hP') ?_
        rintro _ HX ⟨rfl, hHX⟩
        rw [hHX]
        clear hHX HX
        by_cases hE : (s').err = 0
        · have hpr : Syn.parse t = .ok l := by rw [hpar, step0 k rfl (fun h => he h.1)]; exact if_pos hE
          simp [hE, t3, hz]
          refine ⟨fun j x hj => ?_, ?_⟩
          · have := old j x hj
            have e1 : j ≠ H.next := by omega
            simp [e1, hk j x hj]
          · rw [hpr]
            refine ⟨_, rfl, ?_⟩
            rcases hN with h | ⟨hln, b, op, h1, h2, h3⟩
            · exact .inl h
            · have e1 : b ≠ H.next := by omega
              exact .inr ⟨hln, b, op, h1, by omega, by simp [e1, h3]⟩
        · have hpr : Syn.parse t = .error ((s').err, (s').pos) := by rw [hpar, step0 k rfl (fun h => he h.1)]; exact if_neg hE
          have hPu := hP'
          unfold PAt stCells at hPu
          have hne : (H.next + 1 + 1) ≠ H.next := by omega
          simp [hE]
          refine aw_drawn [(3, 0)] mixedOrders (by kernel_rfl) ?_
          intro es hes
          simp [t6, t3, hPu, hz, rds, heapF]
          refine ⟨by subst hes; exact ⟨by kernel_rfl, by kernel_rfl⟩, fun j x hj => ?_, ?_⟩
          · have := old j x hj
            have e1 : j ≠ H.next := by omega
            simp [e1, hk j x hj]
          · rw [hpr]
      have hn0 : ∀ n : Nat, ((n : Int) = 0) = (n = 0) := fun n => by simp
      by_cases hl0 : l = []
      · have hc0 : s'.err = 0 ∧ (l = [] ∨ Syn.kind W s' ≠ 0) := ⟨he, .inl hl0⟩
        have hll : l.length = 0 := by rw [hl0]; rfl
        have h32 : ¬ l.length = 32 := by omega
        simp [he, t6, t3, hal, hl0, hll, -alen]
        refine does_usew (p_node' hW hP' hi') ?_
        rintro _ H2 ⟨rfl, hH2⟩ hw2 _
        have hi2 := (kp_node hW s' hi').1
        have hpz : H.next + 1 + 1 ≠ H.next := by omega
        have hn12 : H2.next = H1.next := by rw [hH2]; rfl
        have hP2' : H2.get (H.next + 1 + 1) = some (.cells (stCells W (Syn.node W s').2)) := by rw [hH2]; simp
        have hz2 : H2.get H.next = some (.cells [.int .i64 0, .int .i64 0]) := by rw [hH2]; simp [Ne.symm hpz, hz]
        have hk2 : ∀ j x, H.get j = some x → H2.get j = some x := fun j x hj => by
          have := old j x hj
          have e : j ≠ H.next + 1 + 1 := by omega
          rw [hH2]; simp [e, hk j x hj]
        have hstep : Syn.nodesL W (k + 1) l s' = Syn.nodesL W k (l ++ [(Syn.node W s').1]) (Syn.node W s').2 := by
          rw [Syn.nodesL, if_pos hc0, if_neg h32]
        have hN2 : NdsR (H.next + 3) H2 (T 7) l := by
          rcases hN with h | ⟨hln, b, op, h1, h2, h3⟩
          · exact .inl h
          · have e : b ≠ H.next + 1 + 1 := by omega
            exact .inr ⟨hln, b, op, h1, h2, by rw [hH2]; simp [e, h3]⟩
        clear hH2
        rw [hstep] at hargs
        have hl33 : l.length < 32 := by omega
        generalize Syn.node W s' = nx at *
        obtain ⟨nd, s2⟩ := nx
        simp only at hargs hP2' hi2
        have hsc : (∀ x : AV, x ∈ ndCells nd → x.scalar = true) = True := eq_true (ndCells_scalar nd)
        have hq6 : (ndCells nd).length = 6 := rfl
        have g7 : List.take 6 (ndCells nd) = ndCells nd := rfl
        have hqq : ndsCells [nd] = ndCells nd := by simp [ndsCells]
        generalize ndCells nd = qc at *
        have m1 : H.next ≠ H2.next := by omega
        have m2 : H.next ≠ H2.next + 1 := by omega
        have n1 : H.next + 1 + 1 ≠ H2.next := by omega
        have n2 : H.next + 1 + 1 ≠ H2.next + 1 := by omega
        have x1 : H.next + 1 ≠ H2.next := by omega
        rcases hN2 with ⟨rfl, e7⟩ | ⟨hln, b, opn, e7, hbn, hb⟩
        · simp [t6, t3, e7, hsc, hq6, g7, -alen]
          exact ⟨k, by omega, [nd], s2, by simpa using hargs, by simp at hlm ⊢; omega, by simp; try omega, hi2, by simp [x1, n1, n2, hP2'], by simp [m1, m2, hz2], .inr ⟨by simp, H2.next + 1, true, by simp, by omega, by simp [hqq, ndsCells_append]⟩, by omega, fun j x hj => by
              have := old j x hj
              have e1 : j ≠ H2.next := by omega
              have e2 : j ≠ H2.next + 1 := by omega
              simp [e1, e2, hk2 j x hj]⟩
        · have hbl := next_lt hw2 hb
          have b1 : b ≠ H2.next := by omega
          have g1 : List.take (l.length * 6) (ndsCells l) = ndsCells l := by rw [List.take_of_length_le]; rw [ndsCells_len]; omega
          have g2 : (ndsCells l).length = l.length * 6 := ndsCells_len l
          have g3 : (l.length + 1) * 120 ≤ 140737488355328 := by omega
          have g4 : l.length ≤ 4611686018427387903 := by omega
          have hgrow : ¬ (l.length + 1 ≤ l.length) := by omega
          have m3 : H.next ≠ b := by omega
          have n3 : H.next + 1 + 1 ≠ b := by omega
          cases opn
          · simp [t6, t3, e7, hsc, hq6, g7, hb, b1, g1, g2, g3, g4, hgrow, -alen]
            exact ⟨k, by omega, l ++ [nd], s2, hargs, by simp at hlm ⊢; omega, by simp; try omega, hi2, by simp [x1, n1, n2, hP2'], by simp [m1, m2, hz2], .inr ⟨by simp, H2.next + 1, true, by simp, by omega, by simp [hqq, ndsCells_append]⟩, by omega, fun j x hj => by
              have := old j x hj
              have e1 : j ≠ H2.next := by omega
              have e2 : j ≠ H2.next + 1 := by omega
              simp [e1, e2, hk2 j x hj]⟩
          · simp [t6, t3, e7, hsc, hq6, g7, hb, b1, g1, g2, g3, g4, hgrow, -alen]
            exact ⟨k, by omega, l ++ [nd], s2, hargs, by simp at hlm ⊢; omega, by simp; try omega, hi2, by simp [x1, n1, n2, n3, hP2'], by simp [m1, m2, m3, hz2], .inr ⟨by simp, H2.next + 1, true, by simp, by omega, by simp [hqq, ndsCells_append]⟩, by omega, fun j x hj => by
              have := old j x hj
              have e1 : j ≠ H2.next := by omega
              have e2 : j ≠ H2.next + 1 := by omega
              have e3 : j ≠ b := by omega
              simp [e1, e2, e3, hk2 j x hj]⟩
      · have hll : l.length ≠ 0 := by simpa using hl0
        simp [he, t6, t3, hal, hl0, hll, -alen]
        refine does_use (p_word hP' hi') ?_
        rintro _ HX ⟨rfl, hHX⟩
        rw [hHX]
        clear hHX HX
        by_cases hk0 : (Syn.at_ W s').2.kind = 0
        · have hk' : ((((Syn.at_ W s').2.kind : Nat) : Int) != 0) = false := by simp; omega
          simp [wdCells, hk', t6, t3, -alen]
          try simp [t6]
          refine does_use (p_ok hP') ?_
          rintro _ HX ⟨rfl, hHX⟩
          rw [hHX]
          clear hHX HX
          by_cases hE : (s').err = 0
          · have hpr : Syn.parse t = .ok l := by rw [hpar, step0 k rfl (fun h => h.2.elim hl0 (fun g => g hk0))]; exact if_pos hE
            simp [hE, t3, hz]
            refine ⟨fun j x hj => ?_, ?_⟩
            · have := old j x hj
              have e1 : j ≠ H.next := by omega
              simp [e1, hk j x hj]
            · rw [hpr]
              refine ⟨_, rfl, ?_⟩
              rcases hN with h | ⟨hln, b, op, h1, h2, h3⟩
              · exact .inl h
              · have e1 : b ≠ H.next := by omega
                exact .inr ⟨hln, b, op, h1, by omega, by simp [e1, h3]⟩
          · have hpr : Syn.parse t = .error ((s').err, (s').pos) := by rw [hpar, step0 k rfl (fun h => h.2.elim hl0 (fun g => g hk0))]; exact if_neg hE
            have hPu := hP'
            unfold PAt stCells at hPu
            have hne : (H.next + 1 + 1) ≠ H.next := by omega
            simp [hE]
            refine aw_drawn [(3, 0)] mixedOrders (by kernel_rfl) ?_
            intro es hes
            simp [t6, t3, hPu, hz, rds, heapF]
            refine ⟨by subst hes; exact ⟨by kernel_rfl, by kernel_rfl⟩, fun j x hj => ?_, ?_⟩
            · have := old j x hj
              have e1 : j ≠ H.next := by omega
              simp [e1, hk j x hj]
            · rw [hpr]
        · have hc0 : s'.err = 0 ∧ (l = [] ∨ Syn.kind W s' ≠ 0) := ⟨he, .inr hk0⟩
          have hk' : ((((Syn.at_ W s').2.kind : Nat) : Int) != 0) = true := by simp; omega
          simp [wdCells, hk', t6, t3, hal, -alen]
          by_cases h32 : l.length = 32
          · have h32' : (((l.length : Nat) : Int) = 32) = True := eq_true (by omega)
            simp [h32', t6, t3, -alen]
            refine does_use (p_fail hP' hi' 2) ?_
            rintro _ H2 ⟨rfl, hH2⟩
            have hpz : H.next + 1 + 1 ≠ H.next := by omega
            have hP2 : PAt H2 (H.next + 1 + 1) W (Syn.fail W 2 s') := by rw [hH2]; exact PAt.set _
            have hz2 : H2.get H.next = some (.cells [.int .i64 0, .int .i64 0]) := by rw [hH2]; simp [Ne.symm hpz, hz]
            have hk2 : ∀ j x, H.get j = some x → H2.get j = some x := fun j x hj => by
              have := old j x hj
              have e : j ≠ H.next + 1 + 1 := by omega
              rw [hH2]; simp [e, hk j x hj]
            have hN2 : NdsR (H.next + 3) H2 (T 7) l := by
              rcases hN with h | ⟨hln, b, op, h1, h2, h3⟩
              · exact .inl h
              · have e : b ≠ H.next + 1 + 1 := by omega
                exact .inr ⟨hln, b, op, h1, h2, by rw [hH2]; simp [e, h3]⟩
            have hfin2 : Syn.nodesL W 33 [] s0 = (l, Syn.fail W 2 s') := by
              rw [← hargs, Syn.nodesL, if_pos hc0, if_pos h32]
            clear hH2
            simp [t6, t3, -alen]
            try simp [t6]
            refine does_use (p_ok hP2) ?_
            rintro _ HX ⟨rfl, hHX⟩
            rw [hHX]
            clear hHX HX
            by_cases hE : ((Syn.fail W 2 s')).err = 0
            · have hpr : Syn.parse t = .ok l := by rw [hpar, hfin2]; exact if_pos hE
              simp [hE, t3, hz2]
              refine ⟨fun j x hj => ?_, ?_⟩
              · have := old j x hj
                have e1 : j ≠ H.next := by omega
                simp [e1, hk2 j x hj]
              · rw [hpr]
                refine ⟨_, rfl, ?_⟩
                rcases hN2 with h | ⟨hln, b, op, h1, h2, h3⟩
                · exact .inl h
                · have e1 : b ≠ H.next := by omega
                  exact .inr ⟨hln, b, op, h1, by omega, by simp [e1, h3]⟩
            · have hpr : Syn.parse t = .error (((Syn.fail W 2 s')).err, ((Syn.fail W 2 s')).pos) := by rw [hpar, hfin2]; exact if_neg hE
              have hPu := hP2
              unfold PAt stCells at hPu
              have hne : (H.next + 1 + 1) ≠ H.next := by omega
              simp [hE]
              refine aw_drawn [(3, 0)] mixedOrders (by kernel_rfl) ?_
              intro es hes
              simp [t6, t3, hPu, hz2, rds, heapF]
              refine ⟨by subst hes; exact ⟨by kernel_rfl, by kernel_rfl⟩, fun j x hj => ?_, ?_⟩
              · have := old j x hj
                have e1 : j ≠ H.next := by omega
                simp [e1, hk2 j x hj]
              · rw [hpr]
          · have h32' : (((l.length : Nat) : Int) = 32) = False := eq_false (by omega)
            simp [h32', t6, t3, -alen]
            refine does_usew (p_node' hW hP' hi') ?_
            rintro _ H2 ⟨rfl, hH2⟩ hw2 _
            have hi2 := (kp_node hW s' hi').1
            have hpz : H.next + 1 + 1 ≠ H.next := by omega
            have hn12 : H2.next = H1.next := by rw [hH2]; rfl
            have hP2' : H2.get (H.next + 1 + 1) = some (.cells (stCells W (Syn.node W s').2)) := by rw [hH2]; simp
            have hz2 : H2.get H.next = some (.cells [.int .i64 0, .int .i64 0]) := by rw [hH2]; simp [Ne.symm hpz, hz]
            have hk2 : ∀ j x, H.get j = some x → H2.get j = some x := fun j x hj => by
              have := old j x hj
              have e : j ≠ H.next + 1 + 1 := by omega
              rw [hH2]; simp [e, hk j x hj]
            have hstep : Syn.nodesL W (k + 1) l s' = Syn.nodesL W k (l ++ [(Syn.node W s').1]) (Syn.node W s').2 := by
              rw [Syn.nodesL, if_pos hc0, if_neg h32]
            have hN2 : NdsR (H.next + 3) H2 (T 7) l := by
              rcases hN with h | ⟨hln, b, op, h1, h2, h3⟩
              · exact .inl h
              · have e : b ≠ H.next + 1 + 1 := by omega
                exact .inr ⟨hln, b, op, h1, h2, by rw [hH2]; simp [e, h3]⟩
            clear hH2
            rw [hstep] at hargs
            have hl33 : l.length < 32 := by omega
            generalize Syn.node W s' = nx at *
            obtain ⟨nd, s2⟩ := nx
            simp only at hargs hP2' hi2
            have hsc : (∀ x : AV, x ∈ ndCells nd → x.scalar = true) = True := eq_true (ndCells_scalar nd)
            have hq6 : (ndCells nd).length = 6 := rfl
            have g7 : List.take 6 (ndCells nd) = ndCells nd := rfl
            have hqq : ndsCells [nd] = ndCells nd := by simp [ndsCells]
            generalize ndCells nd = qc at *
            have m1 : H.next ≠ H2.next := by omega
            have m2 : H.next ≠ H2.next + 1 := by omega
            have n1 : H.next + 1 + 1 ≠ H2.next := by omega
            have n2 : H.next + 1 + 1 ≠ H2.next + 1 := by omega
            have x1 : H.next + 1 ≠ H2.next := by omega
            rcases hN2 with ⟨rfl, e7⟩ | ⟨hln, b, opn, e7, hbn, hb⟩
            · simp [t6, t3, e7, hsc, hq6, g7, -alen]
              exact ⟨k, by omega, [nd], s2, by simpa using hargs, by simp at hlm ⊢; omega, by simp; try omega, hi2, by simp [x1, n1, n2, hP2'], by simp [m1, m2, hz2], .inr ⟨by simp, H2.next + 1, true, by simp, by omega, by simp [hqq, ndsCells_append]⟩, by omega, fun j x hj => by
                  have := old j x hj
                  have e1 : j ≠ H2.next := by omega
                  have e2 : j ≠ H2.next + 1 := by omega
                  simp [e1, e2, hk2 j x hj]⟩
            · have hbl := next_lt hw2 hb
              have b1 : b ≠ H2.next := by omega
              have g1 : List.take (l.length * 6) (ndsCells l) = ndsCells l := by rw [List.take_of_length_le]; rw [ndsCells_len]; omega
              have g2 : (ndsCells l).length = l.length * 6 := ndsCells_len l
              have g3 : (l.length + 1) * 120 ≤ 140737488355328 := by omega
              have g4 : l.length ≤ 4611686018427387903 := by omega
              have hgrow : ¬ (l.length + 1 ≤ l.length) := by omega
              have m3 : H.next ≠ b := by omega
              have n3 : H.next + 1 + 1 ≠ b := by omega
              cases opn
              · simp [t6, t3, e7, hsc, hq6, g7, hb, b1, g1, g2, g3, g4, hgrow, -alen]
                exact ⟨k, by omega, l ++ [nd], s2, hargs, by simp at hlm ⊢; omega, by simp; try omega, hi2, by simp [x1, n1, n2, hP2'], by simp [m1, m2, hz2], .inr ⟨by simp, H2.next + 1, true, by simp, by omega, by simp [hqq, ndsCells_append]⟩, by omega, fun j x hj => by
                  have := old j x hj
                  have e1 : j ≠ H2.next := by omega
                  have e2 : j ≠ H2.next + 1 := by omega
                  simp [e1, e2, hk2 j x hj]⟩
              · simp [t6, t3, e7, hsc, hq6, g7, hb, b1, g1, g2, g3, g4, hgrow, -alen]
                exact ⟨k, by omega, l ++ [nd], s2, hargs, by simp at hlm ⊢; omega, by simp; try omega, hi2, by simp [x1, n1, n2, n3, hP2'], by simp [m1, m2, m3, hz2], .inr ⟨by simp, H2.next + 1, true, by simp, by omega, by simp [hqq, ndsCells_append]⟩, by omega, fun j x hj => by
                  have := old j x hj
                  have e1 : j ≠ H2.next := by omega
                  have e2 : j ≠ H2.next + 1 := by omega
                  have e3 : j ≠ b := by omega
                  simp [e1, e2, e3, hk2 j x hj]⟩
def parseAns (t : Bs) : AV := match Syn.parse t with
  | .ok ns => .tuple [ndsV ns, .agg [.int .i64 0, .int .i64 0]]
  | .error (e, n) => .tuple [.nilsl, .agg [.int .i64 e, .int .i64 n]]
theorem p_parse (t : Bs) (hG : HasErr G) (H : AHeap) (hbig : t.length < 9223372036854775808) : Does Tryz.prog G 11 [.str t] H fun r H' => r = parseAns t ∧ H' = H := by
  refine Does.deep (p_parse_live t hG H hbig) ?_
  rintro hw ha r H1 ⟨h1, h2⟩
  refine ⟨parseAns t, H, ?_, rfl, fun i x hi => ⟨h1 i x hi, (hw i x hi).1, (hw i x hi).2⟩, rfl, rfl⟩
  unfold parseAns
  cases hp : Syn.parse t with
  | ok ns =>
    rw [hp] at h2
    obtain ⟨E, rfl, hE⟩ := h2
    exact .tuple (.cons hE.res (.cons (.old rfl) .nil))
  | error x =>
    rw [hp] at h2
    obtain ⟨e, n⟩ := x
    simp only at h2
    subst h2
    exact .old rfl
end Go.Proofs.YthmnpnbcdoemfaaGreatDoor

namespace Go.Proofs.YthmnpnbcdoemfaaGreatDoor
open Go Go.Abs Go.Lex
open Go.Syn (Ex Nd Eqn Va)
set_option linter.unusedSimpArgs false
set_option linter.unusedVariables false
end Go.Proofs.YthmnpnbcdoemfaaGreatDoor

namespace Go.Proofs.YthmnpnbcdoemfaaGreatDoor
open Go Go.Abs Go.Lex
set_option linter.unusedSimpArgs false
set_option linter.unusedVariables false
variable {G : Nat → Option AV}
def ixF (nm : Bs) : List Bs → Nat → Int
  | [], _ => -1
  | a :: l, i => if a = nm then (i : Int) else ixF nm l (i + 1)
def Named (cs : List AV) (l : List Bs) : Prop := ∀ (i : Nat) (a : Bs), l[i]? = some a → ∃ c1 c2 c3 c4 c5, (cs.drop (i * 6)).take 6 = [.str a, c1, c2, c3, c4, c5] ∧ c1.scalar = true ∧ c2.scalar = true ∧ c3.scalar = true ∧ c4.scalar = true ∧ c5.scalar = true
theorem node1 {a nm : Bs} {c1 c2 c3 c4 c5 : AV} {k : Nat} {H : AHeap} (hk : H.get k = some (.cells [.str nm])) (h1 : c1.scalar = true) (h2 : c2.scalar = true) (h3 : c3.scalar = true) (h4 : c4.scalar = true) (h5 : c5.scalar = true) :
    Does Tryz.prog G 169 [.agg [.str a, c1, c2, c3, c4, c5], .ptr k 0] H fun r h => r = .bool (decide (a = nm)) ∧ ∀ j x, H.get j = some x → h.get j = some x := by
  refine Does.wf Tryz.call169 fun hw _ => ?_
  have hkn := (hw _ _ hk).1
  have e1 : k ≠ H.next := by omega
  refine does_f Tryz.call169 Tryz.func169 rfl (by simp [Tryz.f169]) ?_
  simp [hk, e1, h1, h2, h3, h4, h5]
  refine ⟨?_, fun j x hj => ?_⟩
  · by_cases e : a = nm
    · subst e; simp
    · simp [e]
  · have := (hw _ _ hj).1
    rw [if_neg (by omega)]; exact hj
theorem ixF_drop (nm : Bs) {l : List Bs} {i : Nat} {a : Bs} (h : l[i]? = some a) : ixF nm (l.drop i) i = if a = nm then (i : Int) else ixF nm (l.drop (i + 1)) (i + 1) := by
  have hlt : i < l.length := (List.getElem?_eq_some_iff.1 h).1
  have e : l.drop i = a :: l.drop (i + 1) := by
    rw [List.drop_eq_getElem_cons hlt]
    rw [List.getElem?_eq_getElem hlt] at h
    simp only [Option.some.injEq] at h
    rw [h]
  rw [e, ixF]
set_option maxHeartbeats 8000000 in
set_option maxRecDepth 100000 in
theorem index_n {cs : List AV} {l : List Bs} (hc : Named cs l) (hlen : l.length ≤ 1000000) {nm : Bs} {k : Nat} {H : AHeap} (hk : H.get k = some (.cells [.str nm])) :
    Does Tryz.prog G 168 [.vsl cs l.length, .func (.func 169) [] [.ptr k 0]] H fun r h => r = .int .i64 (ixF nm l 0) ∧ ∀ j x, H.get j = some x → h.get j = some x := by
  refine Does.wf Tryz.call168 fun hw _ => ?_
  refine does_f Tryz.call168 Tryz.func168 rfl (by simp [Tryz.f168]) ?_
  simp
  refine aws_loopw (fun m T' H' => ∃ i : Nat, i + m = l.length ∧ T' 0 = .vsl cs l.length ∧ T' 1 = .func (.func 169) [] [.ptr k 0] ∧ T' 7 = .int .i64 l.length ∧ T' 8 = .int .i64 i ∧ ixF nm l 0 = ixF nm (l.drop i) i ∧ ∀ j x, H.get j = some x → H'.get j = some x) l.length ⟨0, by simp, by simp, by simp, by simp, by simp, by simp, fun _ _ h => h⟩ ?_
  rintro m T H1 ⟨i, him, t0, t1, t7, t8, hix, hkp⟩ hw1 _
  by_cases hi : i < l.length
  · have hii : (i : Int) < l.length := by omega
    obtain ⟨c1, c2, c3, c4, c5, hat, h1, h2, h3, h4, h5⟩ := hc i l[i] (List.getElem?_eq_getElem hi)
    have hd := ixF_drop nm (List.getElem?_eq_getElem hi)
    generalize l[i] = a at *
    have h6 : 6 ≤ cs.length - i * 6 := by
      have := congrArg List.length hat
      rw [List.length_take, List.length_drop] at this
      simp at this
      omega
    have wr : IntKind.i64.wrap ((i : Int) + 1) = ((i + 1 : Nat) : Int) := by rw [IntWalk.i64_in _ (by omega)]; omega
    simp [t0, t1, t7, t8, hii, hi, hat, h6]
    refine does_use (node1 (hkp _ _ hk) h1 h2 h3 h4 h5) ?_
    rintro r H2 ⟨rfl, hk2⟩
    by_cases e : a = nm
    · rw [if_pos e] at hd
      simp [e, t0, t1, t7, t8]
      exact ⟨by rw [hix, hd], fun j x hj => hk2 _ _ (hkp _ _ hj)⟩
    · rw [if_neg e] at hd
      simp [e, t0, t1, t7, t8]
      exact ⟨m - 1, by omega, i + 1, by omega, wr, by rw [hix, hd], fun j x hj => hk2 _ _ (hkp _ _ hj)⟩
  · obtain rfl : i = l.length := by omega
    simp [t0, t1, t7, t8]
    exact ⟨by rw [hix, List.drop_length]; rfl, hkp⟩
theorem node_ix {cs : List AV} {l : List Bs} (hc : Named cs l) (hlen : l.length ≤ 1000000) (nm : Bs) (H : AHeap) :
    Does Tryz.prog G 116 [.vsl cs l.length, .str nm] H fun r h => r = .int .i64 (ixF nm l 0) ∧ h = H := by
  refine Does.forgot (R := fun r h => r = .int .i64 (ixF nm l 0) ∧ ∀ j x, H.get j = some x → h.get j = some x) ?_ fun _ _ r H1 ⟨h1, h2⟩ => ⟨h2, by rw [h1]; rfl, h1, rfl⟩
  refine Does.wf Tryz.call116 fun hw _ => ?_
  refine does_f Tryz.call116 Tryz.func116 rfl (by simp [Tryz.f116]) ?_
  simp
  refine does_use (index_n hc hlen (nm := nm) (k := H.next) (by simp)) ?_
  rintro r H2 ⟨rfl, hk2⟩
  simp
  intro j x hj
  have := (hw _ _ hj).1
  exact hk2 _ _ ((if_neg (by omega)).trans hj)
end Go.Proofs.YthmnpnbcdoemfaaGreatDoor

namespace Go.Proofs.YthmnpnbcdoemfaaGreatDoor
open Go Go.Abs Go.Lex
set_option linter.unusedSimpArgs false
set_option linter.unusedVariables false
variable {G : Nat → Option AV}
theorem kept {f : FuncId} {args : List AV} {H : AHeap} {v : AV} (hv : ∀ n, v.idLt n = true) (h : Does Tryz.prog G f args H fun r h => r = v ∧ ∀ j x, H.get j = some x → h.get j = some x) : Does Tryz.prog G f args H fun r h => r = v ∧ h = H :=
  Does.forgot h fun _ _ r H1 ⟨h1, h2⟩ => ⟨h2, by rw [h1]; exact hv _, h1, rfl⟩
theorem off1 {H : AHeap} (hw : H.Wf) {x : AObj} {j : Nat} {y : AObj} (hj : H.get j = some y) : (if j = H.next then some x else H.get j) = some y := by
  have := (hw _ _ hj).1
  rw [if_neg (by omega)]; exact hj
def exV (p : Nat) : List AV := [.str Syn.sVar, .str [120], .int .i64 0, .int .i64 p, .nilsl]
def exC (nm : Bs) (p q : Nat) : List AV := [.str Syn.sCall, .str nm, .int .i64 0, .int .i64 p, .vsl (exV q) 1]
theorem late_v {p k : Nat} {H : AHeap} (hk : H.get k = some (.map [])) : Does Tryz.prog G 125 [.map k, .agg (exV p)] H fun r h => r = .bool false ∧ h = H := by
  refine kept (fun _ => rfl) (Does.wf Tryz.call125 fun hw _ => ?_)
  have e1 : k ≠ H.next := by have := (hw _ _ hk).1; omega
  refine does_f Tryz.call125 Tryz.func125 rfl (by simp [Tryz.f125]) ?_
  simp [exV, hk, e1, Syn.sVar]
  exact fun j x hj => off1 hw hj
theorem late_c {nm : Bs} {p q k : Nat} {H : AHeap} : Does Tryz.prog G 125 [.map k, .agg (exC nm p q)] H fun r h => r = .bool false ∧ h = H := by
  refine kept (fun _ => rfl) (Does.wf Tryz.call125 fun hw _ => ?_)
  refine does_f Tryz.call125 Tryz.func125 rfl (by simp [Tryz.f125]) ?_
  simp [exC, Syn.sCall]
  exact fun j x hj => off1 hw hj
set_option maxHeartbeats 8000000 in
set_option maxRecDepth 100000 in
theorem any_i {p k : Nat} {H : AHeap} (hk : H.get k = some (.map [])) : Does Tryz.prog G 229 [.vsl (exV p) 1, .func (.func 125) [.map k] []] H fun r h => r = .int .i64 (-1) ∧ h = H := by
  refine does_f Tryz.call229 Tryz.func229 rfl (by simp [Tryz.f229]) ?_
  have hl : ∀ H, H.get k = some (.map []) → Does Tryz.prog G 125 [.map k, .agg (exV p)] H fun r h => r = .bool false ∧ h = H := fun H h => late_v h
  simp only [exV] at hl
  simp [exV]
  refine aws_loop (fun m T' H' => H' = H ∧ T' 0 = .vsl (exV p) 1 ∧ T' 1 = .func (.func 125) [.map k] [] ∧ T' 7 = .int .i64 1 ∧ (m = 1 ∧ T' 8 = .int .i64 0 ∨ m = 0 ∧ T' 8 = .int .i64 1)) 1 ⟨rfl, by simp [exV], by simp, by simp, .inl ⟨rfl, by simp⟩⟩ ?_
  rintro m T H1 ⟨rfl, t0, t1, t7, ⟨rfl, t8⟩ | ⟨rfl, t8⟩⟩
  · simp only [exV] at t0
    simp [t0, t1, t7, t8]
    refine does_use (hl _ hk) ?_
    rintro r H2 ⟨rfl, rfl⟩
    simp [t0, t1, t7, t8, exV]
    decide
  · simp [t0, t1, t7, t8]
theorem any_1 {p k : Nat} {H : AHeap} (hk : H.get k = some (.map [])) : Does Tryz.prog G 177 [.map k, .vsl (exV p) 1] H fun r h => r = .bool false ∧ h = H := by
  refine does_f Tryz.call177 Tryz.func177 rfl (by simp [Tryz.f177]) ?_
  have hc : Does Tryz.prog G 211 [.vsl (exV p) 1, .func (.func 125) [.map k] []] H fun r h => r = .bool false ∧ h = H := by
    refine does_f Tryz.call211 Tryz.func211 rfl (by simp [Tryz.f211]) ?_
    simp
    refine does_use (any_i hk) ?_
    rintro r H2 ⟨rfl, rfl⟩
    simp
  simp
  refine does_use hc ?_
  rintro r H2 ⟨rfl, rfl⟩
  simp
theorem part_v {p k : Nat} {H : AHeap} : Does Tryz.prog G 126 [.map k, .agg (exV p)] H fun r h => r = .bool false ∧ h = H := by
  refine kept (fun _ => rfl) (Does.wf Tryz.call126 fun hw _ => ?_)
  refine does_f Tryz.call126 Tryz.func126 rfl (by simp [Tryz.f126]) ?_
  simp [exV, Syn.sVar]
  exact fun j x hj => off1 hw hj
theorem part_c {nm : Bs} {p q k : Nat} {H : AHeap} (hk : H.get k = some (.map [])) : Does Tryz.prog G 126 [.map k, .agg (exC nm p q)] H fun r h => r = .bool false ∧ h = H := by
  refine kept (fun _ => rfl) (Does.wf Tryz.call126 fun hw _ => ?_)
  have e1 : k ≠ H.next := by have := (hw _ _ hk).1; omega
  refine does_f Tryz.call126 Tryz.func126 rfl (by simp [Tryz.f126]) ?_
  simp [exC, Syn.sCall]
  refine does_use (any_1 (by simp [e1, hk])) ?_
  rintro r H2 ⟨rfl, rfl⟩
  simp
  exact fun j x hj => off1 hw hj
set_option maxHeartbeats 8000000 in
set_option maxRecDepth 100000 in
theorem wrong_v {p k : Nat} {H : AHeap} : Does Tryz.prog G 66 [.map k, .agg (exV p)] H fun r h => r = .tuple [.int .i64 p, .bool false] ∧ h = H := by
  refine kept (fun _ => rfl) (Does.wf Tryz.call66 fun hw _ => ?_)
  refine does_f Tryz.call66 Tryz.func66 rfl (by simp [Tryz.f66]) ?_
  have hl : ∀ H, Does Tryz.prog G 126 [.map k, .agg (exV p)] H fun r h => r = .bool false ∧ h = H := fun H => part_v
  simp only [exV] at hl
  simp [exV]
  refine aws_loop (fun m T' H' => H' = H.push (.cells (exV p)) ∧ T' 0 = .map k ∧ T' 3 = .ptr H.next 0 ∧ T' 12 = .int .i64 0 ∧ T' 13 = .int .i64 0) 1 ⟨by simp [exV], by simp, by simp, by simp, by simp⟩ ?_
  rintro m T H1 ⟨rfl, t0, t3, t12, t13⟩
  simp [t0, t3, t12, t13]
  refine aw_drawn [(1, 0), (1, 5), (3, 0)] mixedOrders (by kernel_rfl) ?_
  intro es hes
  simp [t0, t3, t12, t13, exV]
  refine ⟨_, _, hl _, Nat.le_refl _, ?_⟩
  simp [rds, heapF]
  subst hes
  exact ⟨⟨by kernel_rfl, by kernel_rfl⟩, fun j x hj => off1 hw hj⟩
set_option maxHeartbeats 8000000 in
set_option maxRecDepth 100000 in
theorem wrong_c {nm : Bs} {p q k : Nat} {H : AHeap} (hk : H.get k = some (.map [])) : Does Tryz.prog G 66 [.map k, .agg (exC nm p q)] H fun r h => r = .tuple [.int .i64 p, .bool false] ∧ h = H := by
  refine kept (fun _ => rfl) (Does.wf Tryz.call66 fun hw _ => ?_)
  have e1 : k ≠ H.next := by have := (hw _ _ hk).1; omega
  have e2 : k ≠ H.next + 1 := by have := (hw _ _ hk).1; omega
  refine does_f Tryz.call66 Tryz.func66 rfl (by simp [Tryz.f66]) ?_
  have hl : ∀ H, H.get k = some (.map []) → Does Tryz.prog G 126 [.map k, .agg (exC nm p q)] H fun r h => r = .bool false ∧ h = H := fun H h => part_c h
  have hv : ∀ H, Does Tryz.prog G 66 [.map k, .agg (exV q)] H fun r h => r = .tuple [.int .i64 q, .bool false] ∧ h = H := fun H => wrong_v
  simp only [exV, exC] at hl hv
  simp [exC, exV]
  refine aws_loopw (fun m T' H' => T' 0 = .map k ∧ T' 3 = .ptr H.next 0 ∧ T' 11 = .vsl (exV q) 1 ∧ T' 12 = .int .i64 1 ∧ (m = 1 ∧ T' 13 = .int .i64 0 ∨ m = 0 ∧ T' 13 = .int .i64 1) ∧ H'.get H.next = some (.cells (exC nm p q)) ∧ ∀ j x, H.get j = some x → H'.get j = some x) 1 ⟨by simp, by simp, by simp [exV], by simp, .inl ⟨rfl, by simp⟩, by simp [exC, exV], fun j x hj => off1 hw hj⟩ ?_
  rintro m T H1 ⟨t0, t3, t11, t12, ⟨rfl, t13⟩ | ⟨rfl, t13⟩, hc, hkp⟩ hw1 _
  · have hcn := (hw1 _ _ hc).1
    simp only [exV, exC] at t11 hc
    have e3 : H.next ≠ H1.next := by omega
    simp [t0, t3, t11, t12, t13]
    refine does_use (hv _) ?_
    rintro r H2 ⟨rfl, rfl⟩
    simp [t0, t3, t11, t12, t13, exV, exC, e3, hc]
    refine ⟨by decide, fun j x hj => ?_⟩
    have := (hw _ _ hj).1
    have f1 : j ≠ H1.next := by omega
    simp [f1, hkp j x hj]
  · simp only [exV, exC] at hc
    simp [t0, t3, t11, t12, t13]
    refine aw_drawn [(1, 0), (1, 5), (3, 0)] mixedOrders (by kernel_rfl) ?_
    intro es hes
    simp [t0, t3, t11, t12, t13, hc]
    refine ⟨_, _, hl _ (hkp _ _ hk), Nat.le_refl _, ?_⟩
    simp [rds, heapF, hc]
    subst hes
    exact ⟨⟨by kernel_rfl, by kernel_rfl⟩, hkp⟩
end Go.Proofs.YthmnpnbcdoemfaaGreatDoor

namespace Go.Proofs.YthmnpnbcdoemfaaGreatDoor
open Go Go.Abs Go.Lex
set_option linter.unusedSimpArgs false
set_option linter.unusedVariables false
variable {G : Nat → Option AV}
def eqC (op enm : Bs) (p : Nat) (K : AV) (qp : Nat) : List AV := [.str [121], .str op, .str enm, .int .i64 0, .int .i64 p, K, .int .i64 qp]
def rowC (nm op enm : Bs) (p : Nat) (K : AV) (a b qp np : Nat) : List AV :=
  [.str nm, .vsl [.str [120], .int .i64 2, .str [], .bool false, .int .i64 a] 1, .vsl [.str [121], .int .i64 2, .str [], .bool false, .int .i64 b] 1, .nilsl, .vsl (eqC op enm p K qp) 1, .int .i64 np]
def LateD (G : Nat → Option AV) (op enm : Bs) (p : Nat) (K : AV) : Prop := ∀ k H, H.get k = some (.map []) → Does Tryz.prog G 125 [.map k, .agg [.str op, .str enm, .int .i64 0, .int .i64 p, K]] H fun r h => r = .bool false ∧ h = H
def WrongD (G : Nat → Option AV) (op enm : Bs) (p : Nat) (K : AV) : Prop := ∀ k H, H.get k = some (.map []) → Does Tryz.prog G 66 [.map k, .agg [.str op, .str enm, .int .i64 0, .int .i64 p, K]] H fun r h => r = .tuple [.int .i64 p, .bool false] ∧ h = H
set_option maxHeartbeats 8000000 in
set_option maxRecDepth 100000 in
theorem lates_row {nm op enm : Bs} {p a b qp np : Nat} {K : AV} (hK : K.scalar = true) (hKc : K.cells = [K]) (hl : LateD G op enm p K) {H : AHeap} : Does Tryz.prog G 65 [.agg (rowC nm op enm p K a b qp np)] H fun r h => ∃ k, r = .map k ∧ H.next ≤ k ∧ h.get k = some (.map []) ∧ ∀ j x, H.get j = some x → h.get j = some x := by
  refine Does.wf Tryz.call65 fun hw _ => ?_
  refine does_f Tryz.call65 Tryz.func65 rfl (by simp [Tryz.f65]) ?_
  simp [rowC]
  refine aws_loopw (fun m T' H' => T' 1 = .ptr H.next 0 ∧ T' 3 = .map (H.next + 1) ∧ (m = 1 ∧ T' 4 = .bool true ∨ m = 0 ∧ T' 4 = .bool false) ∧ H'.get H.next = some (.cells (rowC nm op enm p K a b qp np)) ∧ H'.get (H.next + 1) = some (.map []) ∧ ∀ j x, H.get j = some x → H'.get j = some x) 1 ⟨by simp, by simp, .inl ⟨rfl, by simp⟩, by simp [rowC], by simp, fun j x hj => ?_⟩ ?_
  · have := (hw _ _ hj).1
    have f1 : j ≠ H.next := by omega
    have f2 : j ≠ H.next + 1 := by omega
    simp [f1, f2, hj]
  rintro m T H1 ⟨t1, t3, ⟨rfl, t4⟩ | ⟨rfl, t4⟩, hc, hm, hkp⟩ hw1 _
  · simp only [rowC] at hc
    simp [t1, t3, t4, hc, eqC]
    refine aws_loopw (fun m' T' H' => T' 1 = .ptr H.next 0 ∧ T' 3 = .map (H.next + 1) ∧ T' 4 = .bool false ∧ T' 10 = .vsl (eqC op enm p K qp) 1 ∧ T' 11 = .int .i64 1 ∧ (m' = 1 ∧ T' 12 = .int .i64 0 ∨ m' = 0 ∧ T' 12 = .int .i64 1) ∧ H'.get H.next = some (.cells (rowC nm op enm p K a b qp np)) ∧ H'.get (H.next + 1) = some (.map []) ∧ ∀ j x, H.get j = some x → H'.get j = some x) 1 ⟨by simp [t1], by simp [t3], by simp, by simp [eqC], by simp, .inl ⟨rfl, by simp⟩, by simpa [rowC, eqC] using hc, hm, hkp⟩ ?_
    rintro m' T2 H2 ⟨u1, u3, u4, u10, u11, ⟨rfl, u12⟩ | ⟨rfl, u12⟩, hc2, hm2, hkp2⟩ hw2 _
    · have hcn := (hw2 _ _ hm2).1
      simp only [eqC] at u10
      have e1 : H.next ≠ H2.next := by omega
      have e2 : H.next + 1 ≠ H2.next := by omega
      simp [u1, u3, u4, u10, u11, u12, hK, hKc, e1, e2, hm2]
      refine does_use (hl _ _ (by simp [e2, hm2])) ?_
      rintro r H3 ⟨rfl, rfl⟩
      simp [u1, u3, u4, u10, u11, u12, eqC, hc2, hm2, e1, e2]
      refine ⟨by decide, fun j x hj => ?_⟩
      have := (hw _ _ hj).1
      have f1 : j ≠ H2.next := by omega
      simp [f1, hkp2 j x hj]
    · simp [u1, u3, u4, u10, u11, u12]
      exact ⟨hc2, hm2, hkp2⟩
  · simp [t1, t3, t4]
    first | exact ⟨by omega, hm, hkp⟩ | exact ⟨hm, hkp⟩ | (rw [hm]; exact ⟨rfl, hkp⟩) | exact hkp
def RowAt (G : Nat → Option AV) (cs : List AV) (n : Nat) : Prop := ∀ i, i < n → ∃ nm op enm p K a b qp np, (cs.drop (i * 6)).take 6 = rowC nm op enm p K a b qp np ∧ K.scalar = true ∧ K.cells = [K] ∧ LateD G op enm p K ∧ WrongD G op enm p K
set_option maxHeartbeats 8000000 in
set_option maxRecDepth 100000 in
theorem ini_row {cs : List AV} {n : Nat} (hr : RowAt G cs n) (hn : n ≤ 1000) (H : AHeap) : Does Tryz.prog G 28 [.vsl cs n] H fun r h => r = .agg [.int .i64 0, .int .i64 0] ∧ h = H := by
  refine kept (fun _ => rfl) (Does.wf Tryz.call28 fun hw _ => ?_)
  refine does_f Tryz.call28 Tryz.func28 rfl (by simp [Tryz.f28]) ?_
  simp
  refine aws_loopw (fun m T' H' => ∃ i : Nat, i + m = n ∧ T' 2 = .ptr H.next 0 ∧ T' 10 = .vsl cs n ∧ T' 11 = .int .i64 n ∧ T' 12 = .int .i64 i ∧ H'.get H.next = some (.cells [.int .i64 0, .int .i64 0]) ∧ ∀ j x, H.get j = some x → H'.get j = some x) n ⟨0, by simp, by simp, by simp, by simp, by simp, by simp, fun j x hj => off1 hw hj⟩ ?_
  rintro m T H1 ⟨i, him, t2, t10, t11, t12, hf, hkp⟩ hw1 _
  by_cases hi : i < n
  · have hii : (i : Int) < n := by omega
    obtain ⟨nm, op, enm, p, K, a, b, qp, np, hat, hK, hKc, hl, hwr⟩ := hr i hi
    have h6 : 6 ≤ cs.length - i * 6 := by
      have := congrArg List.length hat
      rw [List.length_take, List.length_drop] at this
      simp [rowC] at this
      omega
    have wr : IntKind.i64.wrap ((i : Int) + 1) = ((i + 1 : Nat) : Int) := by rw [IntWalk.i64_in _ (by omega)]; omega
    have hfn := (hw1 _ _ hf).1
    have e0 : H.next ≠ H1.next := by omega
    have hlr := fun H => lates_row (G := G) (nm := nm) (a := a) (b := b) (qp := qp) (np := np) hK hKc hl (H := H)
    simp only [rowC] at hat hlr
    simp [t2, t10, t11, t12, hii, hi, hat, h6]
    refine does_usew (hlr _) ?_
    rintro r H2 ⟨k, rfl, hkn, hkm, hk2⟩ hw2 _
    have c1 : H2.get H1.next = some (.cells (rowC nm op enm p K a b qp np)) := hk2 _ _ (by simp [rowC])
    have c0 : H2.get H.next = some (.cells [.int .i64 0, .int .i64 0]) := hk2 _ _ ((if_neg e0).trans hf)
    have hkp2 : ∀ j x, H.get j = some x → H2.get j = some x := fun j x hj => hk2 _ _ (off1 hw1 (hkp _ _ hj))
    simp only [rowC] at c1
    simp [t2, t10, t11, t12, hii, hi, c1, eqC]
    refine aws_loopw (fun m' T' H' => T' 2 = .ptr H.next 0 ∧ T' 5 = .map k ∧ T' 10 = .vsl cs n ∧ T' 11 = .int .i64 n ∧ T' 12 = .int .i64 i ∧ T' 19 = .vsl (eqC op enm p K qp) 1 ∧ T' 20 = .int .i64 1 ∧ (m' = 1 ∧ T' 21 = .int .i64 0 ∨ m' = 0 ∧ T' 21 = .int .i64 1) ∧ H'.get H.next = some (.cells [.int .i64 0, .int .i64 0]) ∧ H'.get k = some (.map []) ∧ ∀ j x, H.get j = some x → H'.get j = some x) 1 ⟨by simp [t2], by simp, by simp [t10], by simp [t11], by simp [t12], by simp [eqC], by simp, .inl ⟨rfl, by simp⟩, c0, hkm, hkp2⟩ ?_
    rintro m' T2 H3 ⟨u2, u5, u10, u11, u12, u19, u20, ⟨rfl, u21⟩ | ⟨rfl, u21⟩, d0, dk, hkp3⟩ hw3 _
    · have e1 : H.next ≠ H3.next := by have := (hw3 _ _ d0).1; omega
      have e2 : k ≠ H3.next := by have := (hw3 _ _ dk).1; omega
      simp only [eqC] at u19
      simp [u2, u5, u10, u11, u12, u19, u20, u21, hK, hKc, e1, e2, d0, dk]
      refine does_use (hwr _ _ (by simp [e2, dk])) ?_
      rintro r H4 ⟨rfl, rfl⟩
      simp [u2, u5, u10, u11, u12, u19, u20, u21, hK, hKc, e1, e2, d0, dk, eqC]
      refine ⟨by decide, fun j x hj => ?_⟩
      have := (hw3 _ _ (hkp3 j x hj)).1
      have f1 : j ≠ H3.next := by omega
      simp [f1, hkp3 j x hj]
    · simp [u2, u5, u10, u11, u12, u19, u20, u21]
      exact ⟨m - 1, by omega, i + 1, by omega, wr, d0, hkp3⟩
  · obtain rfl : i = n := by omega
    simp [t2, t10, t11, t12, hf]
    intro j x hj
    have := (hw _ _ hj).1
    have f1 : j ≠ H.next := by omega
    simp [f1, hkp j x hj]
end Go.Proofs.YthmnpnbcdoemfaaGreatDoor

namespace Go.Proofs.YthmnpnbcdoemfaaGreatDoor
open Go Go.Abs Go.Lex
def isErrCell : Option AV → Bool
  | some (.vptr [.iface _ _]) => true
  | _ => false
theorem errCell : isErrCell (Gof tab 2) = true := by kernel_rfl
theorem hasErr : HasErr (Gof tab) := by
  have h := errCell
  unfold isErrCell at h
  split at h
  · rename_i t v he; exact ⟨t, v, he⟩
  · simp at h
end Go.Proofs.YthmnpnbcdoemfaaGreatDoor

namespace Go.Proofs.YthmnpnbcdoemfaaGreatDoor
open Go Go.Abs Go.Lex
theorem flatW_cellsW (l : List (Nat × Wd)) : flatW l = cellsW l := by
  induction l with
  | nil => rfl
  | cons x l ih =>
    obtain ⟨i, w⟩ := x
    simp only [flatW, cellsW, ih, wdCells]
theorem cutAns_eq (t : Bs) : cutAns t = cutA t := by
  unfold cutAns cutA
  split
  · rfl
  · cases cutS t.length t with
    | ok l => simp only [flatW_cellsW]
    | error e => rfl
theorem cutOv_good (args : List AV) (H : FH) (k : AV → FH → Bool) (h : cutOv args H k = true) :
    ∃ v H', Does Tryz.prog (Gof tab) 20 args H.abs (fun r h => r = v ∧ h = FH.abs H') ∧ H.next ≤ H'.next ∧ k v H' = true := by
  obtain ⟨s, rfl, hl, hk⟩ := cutOv_inv h
  exact ⟨_, H, (cut_does s hasErr H.abs (by omega)).mono fun r h hr => ⟨hr.1.trans (cutAns_eq s), hr.2⟩, Nat.le_refl _, hk⟩
noncomputable def knownC : Ov := ovAdd 20 cutOv known
theorem knownC_good : OvGoodK Tryz.prog (Gof tab) knownC := ovAdd_good cutOv_good (known_good _)
end Go.Proofs.YthmnpnbcdoemfaaGreatDoor

namespace Go.Proofs.YthmnpnbcdoemfaaGreatDoor
open Go Go.Abs Go.RowKit
noncomputable def knownW : Ov := knownC
theorem knownW_good : OvGoodK Tryz.prog (Gof tab) knownW := knownC_good
end Go.Proofs.YthmnpnbcdoemfaaGreatDoor

namespace Go.Proofs.YthmnpnbcdoemfaaGreatDoor
open Go Go.Abs Go.Lex
set_option linter.unusedSimpArgs false
def wsOf : List AV → Syn.Ws
  | .int _ a :: .str s :: .int _ b :: .int _ c :: r => (c.toNat, ⟨a.toNat, s, b.toNat⟩) :: wsOf r
  | _ => []
theorem wsOf_flatW : ∀ W : Syn.Ws, wsOf (flatW W) = W
  | [] => rfl
  | (i, w) :: W => by
    have ih := wsOf_flatW W
    show wsOf (.int .i64 w.kind :: .str w.text :: .int .i64 w.n :: .int .i64 i :: flatW W) = _
    simp only [wsOf, ih, Int.toNat_natCast]
noncomputable def parseW (W : Syn.Ws) (k : AV → Bool) : Bool :=
  (fun x : List Syn.Nd × Syn.St => ifK (Nat.beq x.2.err 0) (k (.tuple [ndsV x.1, .agg [.int .i64 0, .int .i64 0]])) (k (.tuple [.nilsl, .agg [.int .i64 x.2.err, .int .i64 x.2.pos]]))) (Syn.nodesL W 33 [] ⟨0, 0, 0, 0, 0⟩)
noncomputable def parseV (g : List AV → (AV → Bool) → Bool) (v : AV) (H : FH) (k : AV → FH → Bool) : Bool :=
  v.onTuple false fun l => twoK l (fun c f => c.onSl false (k (.tuple [.nilsl, f]) H) (fun _ _ _ _ _ _ => false) fun cs _ => g cs fun r => k r H) false
theorem parseV_ok (g : List AV → (AV → Bool) → Bool) (cs : List AV) (n : Nat) (f : AV) (H : FH) (k : AV → FH → Bool) : parseV g (.tuple [.vsl cs n, f]) H k = g cs fun r => k r H := rfl
theorem parseV_bad (g : List AV → (AV → Bool) → Bool) (f : AV) (H : FH) (k : AV → FH → Bool) : parseV g (.tuple [.nilsl, f]) H k = k (.tuple [.nilsl, f]) H := rfl
noncomputable def parseOv (args : List AV) (H : FH) (k : AV → FH → Bool) : Bool := cutOv args H fun v _ => parseV (fun cs => parseW (wsOf cs)) v H k
theorem parseOv_inv {args : List AV} {H : FH} {k : AV → FH → Bool} (h : parseOv args H k = true) : ∃ s : Bs, args = [.str s] ∧ s.length ≤ 140737488355328 ∧ k (parseAns s) H = true := by
  obtain ⟨s, rfl, hl, h⟩ := cutOv_inv h
  refine ⟨s, rfl, hl, ?_⟩
  rw [← cutAns_eq] at h
  by_cases hL : 16384 < s.length
  · have hans : cutAns s = .tuple [.nilsl, .agg [.int .i64 2, .int .i64 s.length]] := by unfold cutAns; rw [if_pos hL]
    have hpar : Syn.parse s = .error (2, s.length) := by unfold Syn.parse; rw [if_pos hL]
    rw [hans, parseV_bad] at h
    unfold parseAns
    rw [hpar]
    exact h
  · cases hc : cutS s.length s with
    | error e =>
      have hans : cutAns s = .tuple [.nilsl, .agg [.int .i64 7, .int .i64 e]] := by unfold cutAns; rw [if_neg hL, hc]
      have hpar : Syn.parse s = .error (7, e) := by unfold Syn.parse; rw [if_neg hL, hc]
      rw [hans, parseV_bad] at h
      unfold parseAns
      rw [hpar]
      exact h
    | ok L =>
      obtain ⟨W, hWd⟩ : ∃ W, W = L ++ [(s.length, ⟨0, [], 0⟩)] := ⟨_, rfl⟩
      have hans : cutAns s = .tuple [.vsl (flatW W) W.length, .agg [.int .i64 0, .int .i64 0]] := by
        unfold cutAns; rw [if_neg hL, hc, hWd]
        simp [flatW_snoc]
      have hpar : Syn.parse s = (if (Syn.nodesL W 33 [] ⟨0, 0, 0, 0, 0⟩).2.err = 0 then .ok (Syn.nodesL W 33 [] ⟨0, 0, 0, 0, 0⟩).1 else .error ((Syn.nodesL W 33 [] ⟨0, 0, 0, 0, 0⟩).2.err, (Syn.nodesL W 33 [] ⟨0, 0, 0, 0, 0⟩).2.pos)) := by
        unfold Syn.parse
        rw [if_neg hL, hc]
        simp only
        rw [← hWd]
      rw [hans, parseV_ok] at h
      simp only [wsOf_flatW] at h
      unfold parseW at h
      unfold parseAns
      rw [hpar]
      generalize Syn.nodesL W 33 [] ⟨0, 0, 0, 0, 0⟩ = x at h ⊢
      obtain ⟨ns, st⟩ := x
      simp only at h ⊢
      by_cases he : st.err = 0
      · rw [if_pos he]
        rw [he] at h
        exact h
      · rw [if_neg he]
        have : Nat.beq st.err 0 = false := by
          cases hb : Nat.beq st.err 0 with
          | false => rfl
          | true => exact absurd (Nat.eq_of_beq_eq_true hb) he
        rw [this] at h
        exact h
theorem parseOv_good (args : List AV) (H : FH) (k : AV → FH → Bool) (h : parseOv args H k = true) :
    ∃ v H', Does Tryz.prog (Gof tab) 11 args H.abs (fun r h => r = v ∧ h = FH.abs H') ∧ H.next ≤ H'.next ∧ k v H' = true := by
  obtain ⟨s, rfl, hl, hk⟩ := parseOv_inv h
  exact ⟨_, H, (p_parse s hasErr H.abs (by omega)).mono fun r h hr => ⟨hr.1, hr.2⟩, Nat.le_refl _, hk⟩
noncomputable def knownP : Ov := ovAdd 11 parseOv knownW
theorem knownP_good : OvGoodK Tryz.prog (Gof tab) knownP := ovAdd_good parseOv_good knownW_good
end Go.Proofs.YthmnpnbcdoemfaaGreatDoor

namespace Go.Proofs.YthmnpnbcdoemfaaGreatDoor
open Go Go.Abs Go.Lex
set_option linter.unusedSimpArgs false
set_option maxRecDepth 100000
theorem gof_low5 : ∀ (T : List (Nat × List AV)), (T.all fun p => (AV.vptr p.2).idLt 0) = true → ∀ g a, Gof T g = some a → a.idLt 0 = true
  | [], _, g, a, ha => by simp [Gof] at ha
  | (h, l) :: r, hT, g, a, ha => by
    simp only [List.all_cons, Bool.and_eq_true] at hT
    simp only [Gof] at ha
    split at ha
    · cases ha; exact hT.1
    · exact gof_low5 r hT.2 g a ha
theorem mixed5 : Tryz.prog.follows .mixedOrders = true := by kernel_rfl
theorem plain5 : plainFn Tryz.prog = true := by kernel_rfl
theorem gof_tab5 : ∀ g a, Gof tab g = some a → a.idLt 0 = true := gof_low5 tab (by kernel_rfl)
end Go.Proofs.YthmnpnbcdoemfaaGreatDoor

namespace Go.Proofs.YthmnpnbcdoemfaaGreatDoor
open Go Go.Abs Go.Lex
set_option linter.unusedSimpArgs false
set_option linter.unusedVariables false
set_option maxRecDepth 100000
def timC (nm op enm : Bs) (p : Nat) (K : AV) (a b qp np : Nat) : List AV := rowC nm op enm p K a b qp np ++ [.nilsl]
def tmC (op enm : Bs) (p : Nat) (KT : AV) : List AV := [.str op, .str enm, .int .i64 0, .int .i64 p, .nilsl, .nilsl, KT, .bool false]
theorem clk_v_run (nm : Bs) (p a b qp np : Nat) : ∀ Q : Option AV → List (Option AObj) → Bool, heapK [.cells (timC nm Syn.sVar [120] p .nilsl a b qp np)] FH.empty (fun H => fcall knownP Tryz.prog (Gof tab) 100000 300 62 [.ptr 0 0, .agg (exV p)] H fun v H' => Q (v.resN 1 H'.abs.get 1000) ((List.range 1).map H'.abs.get)) = Q (some (.tuple [.agg (tmC Syn.sVar [120] p .nilsl), .bool true])) ([.cells (timC nm Syn.sVar [120] p .nilsl a b qp np)].map some) := fun Q => by kernel_rfl
theorem clk_c_run (nm enm : Bs) (p q a b qp np : Nat) : ∀ Q : Option AV → List (Option AObj) → Bool, heapK [.cells (timC nm Syn.sCall enm p (.vsl (exV q) 1) a b qp np)] FH.empty (fun H => fcall knownP Tryz.prog (Gof tab) 100000 300 62 [.ptr 0 0, .agg (exC enm p q)] H fun v H' => Q (v.resN 1 H'.abs.get 1000) ((List.range 1).map H'.abs.get)) = Q (some (.tuple [.agg (tmC Syn.sCall enm p (.vsl (tmC Syn.sVar [120] q .nilsl) 1)), .bool true])) ([.cells (timC nm Syn.sCall enm p (.vsl (exV q) 1) a b qp np)].map some) := fun Q => by kernel_rfl
theorem clk_v {nm : Bs} {p a b qp np k : Nat} {H : AHeap} (hk : H.get k = some (.cells (timC nm Syn.sVar [120] p .nilsl a b qp np))) : Does Tryz.prog (Gof tab) 62 [.ptr k 0, .agg (exV p)] H fun r h => r = .tuple [.agg (tmC Syn.sVar [120] p .nilsl), .bool true] ∧ h = H :=
  one_does mixed5 plain5 knownP_good gof_tab5 rfl rfl (fun _ => rfl) (fun _ => rfl) (clk_v_run nm p a b qp np) hk
theorem clk_c {nm enm : Bs} {p q a b qp np k : Nat} {H : AHeap} (hk : H.get k = some (.cells (timC nm Syn.sCall enm p (.vsl (exV q) 1) a b qp np))) : Does Tryz.prog (Gof tab) 62 [.ptr k 0, .agg (exC enm p q)] H fun r h => r = .tuple [.agg (tmC Syn.sCall enm p (.vsl (tmC Syn.sVar [120] q .nilsl) 1)), .bool true] ∧ h = H :=
  one_does mixed5 plain5 knownP_good gof_tab5 rfl rfl (fun _ => rfl) (fun _ => rfl) (clk_c_run nm enm p q a b qp np) hk
theorem clk_of (nm op enm : Bs) (p a b qp np : Nat) (K : AV) (hK : K.idLt 0 = true) (s : Bs) (H : AHeap) : Does Tryz.prog (Gof tab) 64 [.agg (rowC nm op enm p K a b qp np), .str s] H fun r h => r = .nilsl ∧ h = H :=
  sym_does (fuel := 100000) (n := 300) mixed5 plain5 knownP_good gof_tab5 (by simp [rowC, eqC, AV.allLt, AV.idLt, hK]) (fun Q => by kernel_rfl) (fun _ => rfl) H
theorem clk_fits (op enm : Bs) (p : Nat) (KT : AV) (hK : KT.idLt 0 = true) (H : AHeap) : Does Tryz.prog (Gof tab) 63 [.agg (tmC op enm p KT), .nilsl] H fun r h => r = .bool true ∧ h = H :=
  sym_does (fuel := 100000) (n := 300) mixed5 plain5 knownP_good gof_tab5 (by simp [tmC, AV.allLt, AV.idLt, hK]) (fun Q => by kernel_rfl) (fun _ => rfl) H
end Go.Proofs.YthmnpnbcdoemfaaGreatDoor

namespace Go.Proofs.YthmnpnbcdoemfaaGreatDoor
open Go Go.Abs Go.Lex
set_option linter.unusedSimpArgs false
set_option linter.unusedVariables false
def RowK (op enm : Bs) (K : AV) : Prop := (op = Syn.sVar ∧ enm = [120] ∧ K = .nilsl) ∨ (op = Syn.sCall ∧ ∃ q, K = .vsl (exV q) 1)
theorem RowK.sc {op enm : Bs} {K : AV} (h : RowK op enm K) : K.scalar = true ∧ K.cells = [K] ∧ ∀ n, K.idLt n = true := by
  rcases h with ⟨_, _, rfl⟩ | ⟨_, q, rfl⟩ <;> exact ⟨rfl, rfl, fun _ => rfl⟩
theorem clk_e {nm op enm : Bs} {K : AV} (hr : RowK op enm K) (p a b qp np : Nat) : ∃ KT : AV, KT.scalar = true ∧ KT.cells = [KT] ∧ KT.idLt 0 = true ∧ ∀ k H, H.get k = some (.cells (timC nm op enm p K a b qp np)) →
    Does Tryz.prog (Gof tab) 62 [.ptr k 0, .agg [.str op, .str enm, .int .i64 0, .int .i64 p, K]] H fun r h => r = .tuple [.agg (tmC op enm p KT), .bool true] ∧ h = H := by
  rcases hr with ⟨rfl, rfl, rfl⟩ | ⟨rfl, q, rfl⟩
  · exact ⟨_, rfl, rfl, rfl, fun k H h => clk_v h⟩
  · exact ⟨_, rfl, rfl, rfl, fun k H h => clk_c h⟩
def IsRow (cs : List AV) (n : Nat) : Prop := ∀ i, i < n → ∃ nm op enm p K a b qp np, (cs.drop (i * 6)).take 6 = rowC nm op enm p K a b qp np ∧ RowK op enm K
set_option maxHeartbeats 8000000 in
set_option maxRecDepth 100000 in
theorem clk_row {cs : List AV} {n : Nat} (hr : IsRow cs n) (hn : n ≤ 1000) (H : AHeap) : Does Tryz.prog (Gof tab) 27 [.vsl cs n] H fun r h => r = .agg [.int .i64 0, .int .i64 0] ∧ h = H := by
  refine kept (fun _ => rfl) (Does.wf Tryz.call27 fun hw _ => ?_)
  refine does_f Tryz.call27 Tryz.func27 rfl (by simp [Tryz.f27]) ?_
  simp
  refine aws_loopw (fun m T' H' => ∃ i : Nat, i + m = n ∧ T' 2 = .ptr H.next 0 ∧ T' 10 = .vsl cs n ∧ T' 11 = .int .i64 n ∧ T' 12 = .int .i64 i ∧ H'.get H.next = some (.cells [.int .i64 0, .int .i64 0]) ∧ ∀ j x, H.get j = some x → H'.get j = some x) n ⟨0, by simp, by simp, by simp, by simp, by simp, by simp, fun j x hj => off1 hw hj⟩ ?_
  rintro m T H1 ⟨i, him, t2, t10, t11, t12, hf, hkp⟩ hw1 _
  by_cases hi : i < n
  · have hii : (i : Int) < n := by omega
    obtain ⟨nm, op, enm, p, K, a, b, qp, np, hat, hrk⟩ := hr i hi
    obtain ⟨hK, hKc, hKi⟩ := hrk.sc
    obtain ⟨KT, hT, hTc, hTi, he⟩ := clk_e (nm := nm) hrk p a b qp np
    have h6 : 6 ≤ cs.length - i * 6 := by
      have := congrArg List.length hat
      rw [List.length_take, List.length_drop] at this
      simp [rowC] at this
      omega
    have wr : IntKind.i64.wrap ((i : Int) + 1) = ((i + 1 : Nat) : Int) := by rw [IntWalk.i64_in _ (by omega)]; omega
    have hfn := (hw1 _ _ hf).1
    have e0 : H.next ≠ H1.next := by omega
    have hof := fun s H => clk_of nm op enm p a b qp np K (hKi 0) s H
    have hft := fun H => clk_fits op enm p KT hTi H
    simp only [rowC] at hat hof
    simp only [timC, rowC, tmC, List.cons_append, List.nil_append] at he hft
    simp [t2, t10, t11, t12, hii, hi, hat, h6, eqC]
    refine aws_loopw (fun m' T' H' => T' 2 = .ptr H.next 0 ∧ T' 4 = .ptr H1.next 0 ∧ T' 10 = .vsl cs n ∧ T' 11 = .int .i64 n ∧ T' 12 = .int .i64 i ∧ T' 17 = .vsl (eqC op enm p K qp) 1 ∧ T' 18 = .int .i64 1 ∧ (m' = 1 ∧ T' 19 = .int .i64 0 ∨ m' = 0 ∧ T' 19 = .int .i64 1) ∧ H'.get H.next = some (.cells [.int .i64 0, .int .i64 0]) ∧ H'.get H1.next = some (.cells (rowC nm op enm p K a b qp np)) ∧ ∀ j x, H.get j = some x → H'.get j = some x) 1 ⟨by simp [t2], by simp, by simp [t10], by simp [t11], by simp [t12], by simp [eqC], by simp, .inl ⟨rfl, by simp⟩, by simp [e0, hf], by simp [rowC, eqC], fun j x hj => off1 hw1 (hkp _ _ hj)⟩ ?_
    rintro m' T2 H3 ⟨u2, u4, u10, u11, u12, u17, u18, ⟨rfl, u19⟩ | ⟨rfl, u19⟩, d0, d1, hkp3⟩ hw3 _
    · have e1 : H.next ≠ H3.next := by have := (hw3 _ _ d0).1; omega
      have e2 : H1.next ≠ H3.next := by have := (hw3 _ _ d1).1; omega
      have e3 : H1.next ≠ H3.next + 1 := by have := (hw3 _ _ d1).1; omega
      have e4 : H.next ≠ H3.next + 1 := by have := (hw3 _ _ d0).1; omega
      have e5 : H.next ≠ H3.next + 1 + 1 := by have := (hw3 _ _ d0).1; omega
      have e6 : H1.next ≠ H3.next + 1 + 1 := by have := (hw3 _ _ d1).1; omega
      have e7 : H3.next ≠ H3.next + 1 + 1 := by omega
      have e8 : H3.next ≠ H3.next + 1 := by omega
      simp only [rowC] at d1
      simp only [eqC] at u17 d1 hof he
      simp [u2, u4, u10, u11, u12, u17, u18, u19, hK, hKc, e1, e2, e3, e4, d0, d1]
      refine does_use (he _ _ (by simp)) ?_
      rintro r H4 ⟨rfl, rfl⟩
      simp [u2, u4, u10, u11, u12, u17, u18, u19, hK, hKc, hT, hTc, e1, e2, e3, e4, e5, e6, d0, d1, tmC]
      refine aw_drawn [(0, 0), (0, 5), (1, 0), (3, 0)] mixedOrders (by kernel_rfl) ?_
      intro es hes
      simp [u2, u4, u10, u11, u12, u17, u18, u19, hK, hKc, hT, hTc, e1, e2, e3, e4, e5, e6, e7, e8, d0, d1]
      refine ⟨_, _, hof _ _, Nat.le_refl _, ?_⟩
      simp [u2, u4, u10, u11, u12, u17, u18, u19, hK, hKc, hT, hTc, e1, e2, e3, e4, e5, e6, e7, e8, d0, d1]
      refine ⟨_, _, hft _, Nat.le_refl _, ?_⟩
      simp [rds, heapF, u2, u4, u10, u11, u12, u17, u18, u19, hK, hKc, hT, hTc, e1, e2, e3, e4, e5, e6, e7, e8, d0, d1, eqC, rowC]
      subst hes
      refine ⟨⟨by kernel_rfl, by kernel_rfl⟩, by decide, fun j x hj => ?_⟩
      have := (hw3 _ _ (hkp3 j x hj)).1
      have f1 : j ≠ H3.next := by omega
      have f2 : j ≠ H3.next + 1 := by omega
      have f3 : j ≠ H3.next + 1 + 1 := by omega
      simp [f1, f2, f3, hkp3 j x hj]
    · simp [u2, u4, u10, u11, u12, u17, u18, u19]
      exact ⟨m - 1, by omega, i + 1, by omega, wr, d0, hkp3⟩
  · obtain rfl : i = n := by omega
    simp [t2, t10, t11, t12, hf]
    intro j x hj
    have := (hw _ _ hj).1
    have f1 : j ≠ H.next := by omega
    simp [f1, hkp j x hj]
end Go.Proofs.YthmnpnbcdoemfaaGreatDoor

namespace Go.Proofs.YthmnpnbcdoemfaaGreatDoor
open Go Go.Abs Go.Lex
set_option linter.unusedSimpArgs false
set_option linter.unusedVariables false
set_option maxRecDepth 100000
def cauG : List AObj := [.cells [.sl 1 0 1 1 1 true, .map 2], .cells [.str [121]], .map [(.str [121], .sl 3 0 1 0 1 true)], .cells [.str []]]
def cauP : List Nat := [8, 6, 7, 15]
theorem made_v_run (nm : Bs) (p a b qp np : Nat) : ∀ Q : AV → List (Option AObj) → Bool, fcall knownP Tryz.prog (Gof tab) 100000 300 68 [.agg (rowC nm Syn.sVar [120] p .nilsl a b qp np)] FH.empty (fun v H => Q v (cauP.map H.abs.get)) = Q (.ptr (cauP.headD 0) 0) (cauG.map fun x => some (x.ren fun i => cauP.getD i 0)) := fun Q => by kernel_rfl
theorem made_c_run (nm enm : Bs) (p q a b qp np : Nat) : ∀ Q : AV → List (Option AObj) → Bool, fcall knownP Tryz.prog (Gof tab) 100000 300 68 [.agg (rowC nm Syn.sCall enm p (.vsl (exV q) 1) a b qp np)] FH.empty (fun v H => Q v (cauP.map H.abs.get)) = Q (.ptr (cauP.headD 0) 0) (cauG.map fun x => some (x.ren fun i => cauP.getD i 0)) := fun Q => by kernel_rfl
theorem round_run : ∀ Q : Option AV → List (Option AObj) → Bool, heapK cauG FH.empty (fun H => fcall knownP Tryz.prog (Gof tab) 100000 300 69 [.ptr 0 0, .str [121]] H fun v H' => Q (v.resN cauG.length H'.abs.get 1000) ((List.range cauG.length).map H'.abs.get)) = Q (some (.bool false)) (cauG.map some) := fun Q => by kernel_rfl
theorem cau_round {H : AHeap} {ρ : Nat → Nat} (hp : IsPart (AHeap.ofList cauG) ρ H) : Does Tryz.prog (Gof tab) 69 [.ptr (ρ 0) 0, .str [121]] H fun r h => r = .bool false ∧ h = H := by
  have hd := tick_does mixed5 plain5 knownP_good (g := cauG) (g' := cauG) rfl (by decide) round_run
  refine (tick_part (l := cauG) (l' := cauG) (i0 := 0) hd (by decide) rfl (by decide) (fun _ => rfl) (fun _ => rfl) gof_tab5 hp).mono ?_
  rintro x hh ⟨rfl, rfl⟩
  exact ⟨rfl, patch_same hp⟩
theorem cau_made {nm op enm : Bs} {K : AV} (hr : RowK op enm K) (p a b qp np : Nat) (H : AHeap) : Does Tryz.prog (Gof tab) 68 [.agg (rowC nm op enm p K a b qp np)] H fun r h => ∃ ρ : Nat → Nat, IsPart (AHeap.ofList cauG) ρ h ∧ (∀ i, i < cauG.length → H.next ≤ ρ i) ∧ r = .ptr (ρ 0) 0 ∧ H.next ≤ h.next ∧ ∀ j, j < H.next → h.get j = H.get j := by
  rcases hr with ⟨rfl, rfl, rfl⟩ | ⟨rfl, q, rfl⟩
  · exact fresh_does mixed5 plain5 knownP_good gof_tab5 (perm := cauP) rfl rfl (by decide) (made_v_run nm p a b qp np) H
  · exact fresh_does mixed5 plain5 knownP_good gof_tab5 (perm := cauP) rfl rfl (by decide) (made_c_run nm enm p q a b qp np) H
end Go.Proofs.YthmnpnbcdoemfaaGreatDoor

namespace Go.Proofs.YthmnpnbcdoemfaaGreatDoor
open Go Go.Abs Go.Lex
set_option linter.unusedSimpArgs false
set_option linter.unusedVariables false
set_option maxHeartbeats 8000000 in
set_option maxRecDepth 100000 in
theorem cau_row {cs : List AV} {n : Nat} (hr : IsRow cs n) (hn : n ≤ 1000) (H : AHeap) : Does Tryz.prog (Gof tab) 29 [.vsl cs n] H fun r h => r = .agg [.int .i64 0, .int .i64 0] ∧ h = H := by
  refine kept (fun _ => rfl) (Does.wf Tryz.call29 fun hw _ => ?_)
  refine does_f Tryz.call29 Tryz.func29 rfl (by simp [Tryz.f29]) ?_
  simp
  refine aws_loopw (fun m T' H' => ∃ i : Nat, i + m = n ∧ T' 2 = .ptr H.next 0 ∧ T' 8 = .vsl cs n ∧ T' 9 = .int .i64 n ∧ T' 10 = .int .i64 i ∧ H'.get H.next = some (.cells [.int .i64 0, .int .i64 0]) ∧ ∀ j x, H.get j = some x → H'.get j = some x) n ⟨0, by simp, by simp, by simp, by simp, by simp, by simp, fun j x hj => off1 hw hj⟩ ?_
  rintro m T H1 ⟨i, him, t2, t8, t9, t10, hf, hkp⟩ hw1 _
  by_cases hi : i < n
  · have hii : (i : Int) < n := by omega
    obtain ⟨nm, op, enm, p, K, a, b, qp, np, hat, hrk⟩ := hr i hi
    obtain ⟨hK, hKc, hKi⟩ := hrk.sc
    have h6 : 6 ≤ cs.length - i * 6 := by
      have := congrArg List.length hat
      rw [List.length_take, List.length_drop] at this
      simp [rowC] at this
      omega
    have wr : IntKind.i64.wrap ((i : Int) + 1) = ((i + 1 : Nat) : Int) := by rw [IntWalk.i64_in _ (by omega)]; omega
    have hfn := (hw1 _ _ hf).1
    have e0 : H.next ≠ H1.next := by omega
    have hmd := fun H => cau_made (nm := nm) hrk p a b qp np H
    simp only [rowC, eqC] at hat hmd
    simp [t2, t8, t9, t10, hii, hi, hat, h6]
    refine does_usew (hmd _) ?_
    rintro r H2 ⟨ρ, hpt, hρ, rfl, hn2, hk2⟩ hw2 _
    have hn2 : H1.next + 1 ≤ H2.next := hn2
    have c1 : H2.get H1.next = some (.cells (rowC nm op enm p K a b qp np)) := by
      rw [hk2 _ (Nat.lt_succ_self _)]
      simp [rowC, eqC]
    have c0 : H2.get H.next = some (.cells [.int .i64 0, .int .i64 0]) := by
      rw [hk2 _ (by show H.next < H1.next + 1; omega)]
      exact (if_neg e0).trans hf
    have hkp2 : ∀ j x, H.get j = some x → H2.get j = some x := fun j x hj => by
      have h1 := hkp _ _ hj
      have := (hw1 _ _ h1).1
      rw [hk2 _ (by show j < H1.next + 1; omega)]
      exact off1 hw1 h1
    simp only [rowC, eqC] at c1
    simp [t2, t8, t9, t10, hii, hi, c1]
    refine aws_loopw (fun m' T' H' => T' 2 = .ptr H.next 0 ∧ T' 5 = .ptr (ρ 0) 0 ∧ T' 8 = .vsl cs n ∧ T' 9 = .int .i64 n ∧ T' 10 = .int .i64 i ∧ T' 17 = .vsl (eqC op enm p K qp) 1 ∧ T' 18 = .int .i64 1 ∧ (m' = 1 ∧ T' 19 = .int .i64 0 ∨ m' = 0 ∧ T' 19 = .int .i64 1) ∧ H'.get H.next = some (.cells [.int .i64 0, .int .i64 0]) ∧ IsPart (AHeap.ofList cauG) ρ H' ∧ ∀ j x, H.get j = some x → H'.get j = some x) 1 ⟨by simp [t2], by simp, by simp [t8], by simp [t9], by simp [t10], by simp [eqC], by simp, .inl ⟨rfl, by simp⟩, c0, hpt, hkp2⟩ ?_
    rintro m' T2 H3 ⟨u2, u5, u8, u9, u10, u17, u18, ⟨rfl, u19⟩ | ⟨rfl, u19⟩, d0, dp, hkp3⟩ hw3 _
    · have e1 : H.next ≠ H3.next := by have := (hw3 _ _ d0).1; omega
      simp only [eqC] at u17
      simp [u2, u5, u8, u9, u10, u17, u18, u19, hK, hKc, e1, d0]
      refine does_use (cau_round (ρ := ρ) ?_) ?_
      · refine dp.keep fun j hj => ?_
        obtain ⟨x, h1, h2⟩ := dp.full j hj
        have := (hw3 _ _ h2).1
        have f1 : ρ j ≠ H3.next := by omega
        simp [f1]
      rintro r H4 ⟨rfl, rfl⟩
      simp [u2, u5, u8, u9, u10, u17, u18, u19, hK, hKc, e1, d0, eqC]
      refine ⟨by decide, dp.keep fun j hj => ?_, fun j x hj => ?_⟩
      · obtain ⟨x, h1, h2⟩ := dp.full j hj
        have := (hw3 _ _ h2).1
        have f1 : ρ j ≠ H3.next := by omega
        simp [f1]
      · have := (hw3 _ _ (hkp3 j x hj)).1
        have f1 : j ≠ H3.next := by omega
        simp [f1, hkp3 j x hj]
    · simp [u2, u5, u8, u9, u10, u17, u18, u19]
      exact ⟨m - 1, by omega, i + 1, by omega, wr, d0, hkp3⟩
  · obtain rfl : i = n := by omega
    simp [t2, t8, t9, t10, hf]
    intro j x hj
    have := (hw _ _ hj).1
    have f1 : j ≠ H.next := by omega
    simp [f1, hkp j x hj]
end Go.Proofs.YthmnpnbcdoemfaaGreatDoor

namespace Go.Proofs.YthmnpnbcdoemfaaGreatDoor
open Go Go.Abs Go.Lex
set_option linter.unusedSimpArgs false
set_option linter.unusedVariables false
def typC (cs : List AV) (i : Nat) (nm op enm : Bs) (p : Nat) (K : AV) (a b qp np : Nat) : List AV := .vsl cs i :: (rowC nm op enm p K a b qp np ++ [.nilsl])
set_option maxRecDepth 100000 in
theorem named_run (cs : List AV) (i : Nat) (nm op enm : Bs) (p : Nat) (K : AV) (a b qp np : Nat) : ∀ Q : Option AV → List (Option AObj) → Bool, heapK [.cells (typC cs i nm op enm p K a b qp np)] FH.empty (fun H => fcall knownP Tryz.prog (Gof tab) 100000 300 119 [.ptr 0 0, .str [121]] H fun v H' => Q (v.resN 1 H'.abs.get 1000) ((List.range 1).map H'.abs.get)) = Q (some (.int .i64 2)) ([.cells (typC cs i nm op enm p K a b qp np)].map some) := fun Q => by kernel_rfl
set_option maxRecDepth 100000 in
theorem texpr_run (cs : List AV) (i : Nat) (nm op enm : Bs) (p q : Nat) (K : AV) (a b qp np : Nat) : ∀ Q : Option AV → List (Option AObj) → Bool, heapK [.cells (typC cs i nm op enm p K a b qp np)] FH.empty (fun H => fcall knownP Tryz.prog (Gof tab) 100000 300 120 [.ptr 0 0, .agg (exV q)] H fun v H' => Q (v.resN 1 H'.abs.get 1000) ((List.range 1).map H'.abs.get)) = Q (some (.int .i64 2)) ([.cells (typC cs i nm op enm p K a b qp np)].map some) := fun Q => by kernel_rfl
theorem typC_lt {cs : List AV} (hcs : ∀ n, AV.allLt n cs = true) {i : Nat} {nm op enm : Bs} {p : Nat} {K : AV} (hK : ∀ n, K.idLt n = true) {a b qp np : Nat} (n : Nat) : AV.allLt n (typC cs i nm op enm p K a b qp np) = true := by
  simp [typC, rowC, eqC, AV.allLt, AV.idLt, hcs n, hK n]
theorem typ_named {cs : List AV} (hcs : ∀ n, AV.allLt n cs = true) {i : Nat} {nm op enm : Bs} {p : Nat} {K : AV} (hK : ∀ n, K.idLt n = true) {a b qp np k : Nat} {H : AHeap} (hk : H.get k = some (.cells (typC cs i nm op enm p K a b qp np))) : Does Tryz.prog (Gof tab) 119 [.ptr k 0, .str [121]] H fun r h => r = .int .i64 2 ∧ h = H :=
  one_does mixed5 plain5 knownP_good gof_tab5 (typC_lt hcs hK 0) (typC_lt hcs hK 1) (fun _ => rfl) (fun _ => rfl) (named_run cs i nm op enm p K a b qp np) hk
theorem typ_v {cs : List AV} (hcs : ∀ n, AV.allLt n cs = true) {i : Nat} {nm op enm : Bs} {p q : Nat} {K : AV} (hK : ∀ n, K.idLt n = true) {a b qp np k : Nat} {H : AHeap} (hk : H.get k = some (.cells (typC cs i nm op enm p K a b qp np))) : Does Tryz.prog (Gof tab) 120 [.ptr k 0, .agg (exV q)] H fun r h => r = .int .i64 2 ∧ h = H :=
  one_does mixed5 plain5 knownP_good gof_tab5 (typC_lt hcs hK 0) (typC_lt hcs hK 1) (fun _ => rfl) (fun _ => rfl) (texpr_run cs i nm op enm p q K a b qp np) hk
set_option maxHeartbeats 8000000 in
set_option maxRecDepth 100000 in
theorem typ_call {cs : List AV} {l : List Bs} (hc : Named cs l) (hlen : l.length ≤ 1000) {nm op enm : Bs} {p q : Nat} {K : AV} {a b qp np k kb : Nat} {oo : Bool} {H : AHeap} {p' : Nat}
    (hk : H.get k = some (.cells (typC cs l.length nm op enm p K a b qp np))) (hb : H.get kb = some (.cells [.int .i64 2])) {j : Nat} (hj : ixF enm l 0 = (j : Int)) (hjl : j < l.length)
    {nm' op' enm' : Bs} {p2 : Nat} {K' : AV} {a' b' qp' np' : Nat} (hat : (cs.drop (j * 6)).take 6 = rowC nm' op' enm' p2 K' a' b' qp' np') :
    Does Tryz.prog (Gof tab) 206 [.ptr k 0, .agg (exC enm p' q), .sl kb 0 1 1 1 oo] H fun r h => r = .int .i64 2 ∧ h = H := by
  refine kept (fun _ => rfl) (Does.wf Tryz.call206 fun hw _ => ?_)
  refine does_f Tryz.call206 Tryz.func206 rfl (by simp [Tryz.f206]) ?_
  have ek : k ≠ H.next := by have := (hw _ _ hk).1; omega
  have eb : kb ≠ H.next := by have := (hw _ _ hb).1; omega
  simp only [typC, rowC, eqC, List.cons_append, List.nil_append] at hk
  have hnx := fun H => node_ix (G := Gof tab) hc (by omega) enm H
  rw [hj] at hnx
  simp [exC, exV, hk, hb, ek, eb]
  refine aw_drawn [(3, 0), (5, 0)] mixedOrders (by kernel_rfl) ?_
  intro es hes
  simp [hk, hb, ek, eb]
  refine ⟨_, _, hnx _, Nat.le_refl _, ?_⟩
  have hj0 : ¬ ((j : Int) < 0) := by omega
  obtain ⟨R, hR⟩ : ∃ R, cs.drop (j * 6) = rowC nm' op' enm' p2 K' a' b' qp' np' ++ R := ⟨(cs.drop (j * 6)).drop 6, by rw [← hat, List.take_append_drop]⟩
  have hjj : (j : Int) < l.length := by omega
  simp only [rowC, List.cons_append, List.nil_append] at hR
  simp [rds, heapF, hk, hb, ek, eb, hj0, hjl, hjj, hR]
  subst hes
  refine ⟨⟨by kernel_rfl, by kernel_rfl⟩, ?_⟩
  refine aws_loopw (fun m' T' H' => T' 0 = .ptr k 0 ∧ T' 2 = .sl kb 0 1 1 1 oo ∧ T' 7 = .int .i64 j ∧ T' 52 = .vsl [.str [120], .int .i64 2, .str [], .bool false, .int .i64 a'] 1 ∧ T' 53 = .int .i64 1 ∧ (m' = 1 ∧ T' 54 = .int .i64 0 ∨ m' = 0 ∧ T' 54 = .int .i64 1) ∧ ∀ j x, H.get j = some x → H'.get j = some x) 1 ⟨by simp, by simp, by simp, by simp, by simp, .inl ⟨rfl, by simp⟩, fun j x hj => off1 hw hj⟩ ?_
  rintro m' T2 H3 ⟨u0, u2, u7, u52, u53, ⟨rfl, u54⟩ | ⟨rfl, u54⟩, hkp3⟩ hw3 _
  · have hb3 := hkp3 _ _ hb
    have eb3 : kb ≠ H3.next := by have := (hw3 _ _ hb3).1; omega
    simp [u0, u2, u7, u52, u53, u54, hb3, eb3]
    refine aw_drawn [(1, 0), (5, 0)] mixedOrders (by kernel_rfl) ?_
    intro es hes
    simp [rds, heapF, u0, u2, u7, u52, u53, u54, hb3, eb3]
    subst hes
    refine ⟨⟨by kernel_rfl, by kernel_rfl⟩, by decide, fun j x hj => ?_⟩
    have := (hw3 _ _ (hkp3 j x hj)).1
    have f1 : j ≠ H3.next := by omega
    simp [f1, hkp3 j x hj]
  · have hk3 := hkp3 _ _ hk
    simp [u0, u2, u7, u52, u53, u54, hk3, hjl, hjj, hR]
    exact hkp3
end Go.Proofs.YthmnpnbcdoemfaaGreatDoor

namespace Go.Proofs.YthmnpnbcdoemfaaGreatDoor
open Go Go.Abs Go.Lex
set_option linter.unusedSimpArgs false
set_option linter.unusedVariables false
set_option maxHeartbeats 8000000 in
set_option maxRecDepth 100000 in
theorem typ_of {k kb : Nat} {oo : Bool} {H : AHeap} {enm : Bs} {p q : Nat} (hb : H.get kb = some (.cells [.int .i64 2])) {Kp : AHeap → Prop} (hKp : Kp H) (hmono : ∀ H H' : AHeap, Kp H → (∀ j x, H.get j = some x → H'.get j = some x) → Kp H')
    (hc : ∀ H, Kp H → H.get kb = some (.cells [.int .i64 2]) → Does Tryz.prog (Gof tab) 206 [.ptr k 0, .agg (exC enm p q), .sl kb 0 1 1 1 oo] H fun r h => r = .int .i64 2 ∧ h = H) :
    Does Tryz.prog (Gof tab) 172 [.ptr k 0, .agg (exC enm p q), .sl kb 0 1 1 1 oo] H fun r h => r = .int .i64 2 ∧ h = H := by
  refine kept (fun _ => rfl) (Does.wf Tryz.call172 fun hw _ => ?_)
  refine does_f Tryz.call172 Tryz.func172 rfl (by simp [Tryz.f172]) ?_
  have eb : kb ≠ H.next := by have := (hw _ _ hb).1; omega
  have hc2 := hc
  simp only [exC, exV] at hc2
  simp [exC, exV, hb, eb, Syn.sCall]
  refine does_use (hc2 _ (hmono _ _ hKp fun j x hj => off1 hw hj) (by simp [eb, hb])) ?_
  rintro r H2 ⟨rfl, rfl⟩
  simp
  exact fun j x hj => off1 hw hj
set_option maxHeartbeats 8000000 in
set_option maxRecDepth 100000 in
theorem typ_c {k : Nat} {H : AHeap} {enm : Bs} {p q : Nat} {Kp : AHeap → Prop} (hKp : Kp H) (hmono : ∀ H H' : AHeap, Kp H → (∀ j x, H.get j = some x → H'.get j = some x) → Kp H')
    (hv : ∀ H, Kp H → Does Tryz.prog (Gof tab) 120 [.ptr k 0, .agg (exV q)] H fun r h => r = .int .i64 2 ∧ h = H)
    (hc : ∀ kb oo H, Kp H → H.get kb = some (.cells [.int .i64 2]) → Does Tryz.prog (Gof tab) 206 [.ptr k 0, .agg (exC enm p q), .sl kb 0 1 1 1 oo] H fun r h => r = .int .i64 2 ∧ h = H) :
    Does Tryz.prog (Gof tab) 120 [.ptr k 0, .agg (exC enm p q)] H fun r h => r = .int .i64 2 ∧ h = H := by
  refine kept (fun _ => rfl) (Does.wf Tryz.call120 fun hw _ => ?_)
  refine does_f Tryz.call120 Tryz.func120 rfl (by simp [Tryz.f120]) ?_
  have ho := fun kb oo H h1 h2 => typ_of (k := k) (kb := kb) (oo := oo) (H := H) (enm := enm) (p := p) (q := q) h2 h1 hmono (hc kb oo)
  simp only [exC, exV] at ho hv
  simp [exC, exV]
  refine aws_loopw (fun m' T' H' => T' 0 = .ptr k 0 ∧ T' 3 = .ptr H.next 0 ∧ T' 11 = .vsl (exV q) 1 ∧ T' 12 = .int .i64 1 ∧ (m' = 1 ∧ T' 5 = .nilsl ∧ T' 13 = .int .i64 0 ∨ m' = 0 ∧ T' 13 = .int .i64 1 ∧ ∃ kb, T' 5 = .sl kb 0 1 1 1 true ∧ H'.get kb = some (.cells [.int .i64 2])) ∧ H'.get H.next = some (.cells (exC enm p q)) ∧ ∀ j x, H.get j = some x → H'.get j = some x) 1 ⟨by simp, by simp, by simp [exV], by simp, .inl ⟨rfl, by simp, by simp⟩, by simp [exC, exV], fun j x hj => off1 hw hj⟩ ?_
  rintro m' T2 H3 ⟨u0, u3, u11, u12, ⟨rfl, u5, u13⟩ | ⟨rfl, u13, kb, u5, hb⟩, d0, hkp3⟩ hw3 _
  · have e1 : H.next ≠ H3.next := by have := (hw3 _ _ d0).1; omega
    have e2 : H.next ≠ H3.next + 1 := by have := (hw3 _ _ d0).1; omega
    have e3 : H.next ≠ H3.next + 1 + 1 := by have := (hw3 _ _ d0).1; omega
    simp only [exV] at u11
    simp only [exC, exV] at d0
    simp [u0, u3, u5, u11, u12, u13]
    refine does_use (hv _ (hmono _ _ (hmono _ _ hKp hkp3) fun j x hj => off1 hw3 hj)) ?_
    rintro r H4 ⟨rfl, rfl⟩
    simp [u0, u3, u5, u11, u12, u13, exV, exC, e1, e2, e3, d0]
    refine ⟨by decide, fun j x hj => ?_⟩
    have := (hw3 _ _ (hkp3 j x hj)).1
    have f1 : j ≠ H3.next := by omega
    have f2 : j ≠ H3.next + 1 := by omega
    have f3 : j ≠ H3.next + 1 + 1 := by omega
    simp [f1, f2, f3, hkp3 j x hj]
  · simp only [exC, exV] at d0
    simp [u0, u3, u5, u11, u12, u13, d0]
    refine does_use (ho _ _ _ (hmono _ _ hKp hkp3) hb) ?_
    rintro r H4 ⟨rfl, rfl⟩
    simp [u0, u3, u5, u11, u12, u13]
    exact hkp3
end Go.Proofs.YthmnpnbcdoemfaaGreatDoor

namespace Go.Proofs.YthmnpnbcdoemfaaGreatDoor
open Go Go.Abs Go.Lex
set_option linter.unusedSimpArgs false
set_option linter.unusedVariables false
set_option maxHeartbeats 8000000 in
set_option maxRecDepth 100000 in
theorem typ_node {cs : List AV} (hcs : ∀ n, AV.allLt n cs = true) {i : Nat} {nm op enm : Bs} {p : Nat} {K : AV} (hK : K.scalar = true) (hKc : K.cells = [K]) (hKi : ∀ n, K.idLt n = true) {a b qp np k : Nat} {H : AHeap} (hk : H.get k = some (.cells (typC cs i nm op enm p K a b qp np)))
    (he : ∀ H, H.get k = some (.cells (typC cs i nm op enm p K a b qp np)) → Does Tryz.prog (Gof tab) 120 [.ptr k 0, .agg [.str op, .str enm, .int .i64 0, .int .i64 p, K]] H fun r h => r = .int .i64 2 ∧ h = H) :
    Does Tryz.prog (Gof tab) 61 [.ptr k 0] H fun r h => r = .tuple [] ∧ h = H := by
  refine kept (fun _ => rfl) (Does.wf Tryz.call61 fun hw _ => ?_)
  refine does_f Tryz.call61 Tryz.func61 rfl (by simp [Tryz.f61]) ?_
  have hnd := fun H h => typ_named (H := H) (i := i) (nm := nm) (op := op) (enm := enm) (p := p) (K := K) (a := a) (b := b) (qp := qp) (np := np) (k := k) hcs hKi h
  have hk1 := hk
  simp only [typC, rowC, eqC, List.cons_append, List.nil_append] at hk1
  simp [hk1]
  refine aws_loop (fun m' T' H' => T' 0 = .ptr k 0 ∧ T' 12 = .int .i64 0 ∧ T' 13 = .int .i64 0 ∧ H' = H) 1 ⟨by simp, by simp, by simp, rfl⟩ ?_
  rintro m T H1 ⟨t0, t12, t13, rfl⟩
  simp [t0, t12, t13, hk1]
  refine aws_loopw (fun m' T' H' => T' 0 = .ptr k 0 ∧ T' 43 = .vsl (eqC op enm p K qp) 1 ∧ T' 44 = .int .i64 1 ∧ (m' = 1 ∧ T' 45 = .int .i64 0 ∨ m' = 0 ∧ T' 45 = .int .i64 1) ∧ ∀ j x, H1.get j = some x → H'.get j = some x) 1 ⟨by simp [t0], by simp [eqC], by simp, .inl ⟨rfl, by simp⟩, fun j x hj => hj⟩ ?_
  rintro m' T2 H3 ⟨u0, u43, u44, ⟨rfl, u45⟩ | ⟨rfl, u45⟩, hkp3⟩ hw3 _
  · have hk3 := hkp3 _ _ hk
    have e1 : k ≠ H3.next := by have := (hw3 _ _ hk3).1; omega
    have hk4 : ∀ x, (H3.push x).get k = some (.cells (typC cs i nm op enm p K a b qp np)) := fun x => off1 hw3 hk3
    simp only [eqC] at u43
    simp [u0, u43, u44, u45, hK, hKc]
    refine does_use (he _ (hk4 _)) ?_
    rintro r H4 ⟨rfl, rfl⟩
    simp [u0, u43, u44, u45, hK, hKc]
    refine does_use (hnd _ (hk4 _)) ?_
    rintro r H5 ⟨rfl, rfl⟩
    simp [u0, u43, u44, u45, hK, hKc, eqC]
    refine ⟨by decide, fun j x hj => off1 hw3 (hkp3 _ _ hj)⟩
  · simp [u0, u43, u44, u45]
    exact hkp3
structure RowN (cs : List AV) (nms : List Bs) : Prop where
  at_ : ∀ i nm, nms[i]? = some nm → ∃ op enm p K a b qp np, (cs.drop (i * 6)).take 6 = rowC nm op enm p K a b qp np ∧ RowK op enm K ∧ ixF nm (nms.take i) 0 = -1 ∧ (op = Syn.sCall → ∃ j, j < i ∧ ixF enm (nms.take i) 0 = (j : Int))
  lt : ∀ n, AV.allLt n cs = true
theorem RowN.is {cs : List AV} {nms : List Bs} (h : RowN cs nms) : IsRow cs nms.length := fun i hi => by
  obtain ⟨op, enm, p, K, a, b, qp, np, h1, h2, _⟩ := h.at_ i nms[i] (List.getElem?_eq_getElem hi)
  exact ⟨_, op, enm, p, K, a, b, qp, np, h1, h2⟩
theorem RowN.named {cs : List AV} {nms : List Bs} (h : RowN cs nms) (k : Nat) : Named cs (nms.take k) := fun i a hi => by
  have hi2 : nms[i]? = some a := by
    rw [List.getElem?_take] at hi
    split at hi
    · exact hi
    · simp at hi
  obtain ⟨op, enm, p, K, c, b, qp, np, h1, _⟩ := h.at_ i a hi2
  exact ⟨_, _, _, _, _, h1, rfl, rfl, rfl, rfl, rfl⟩
theorem typ_e {cs : List AV} {nms : List Bs} (h : RowN cs nms) (hlen : nms.length ≤ 1000) {i : Nat} (hi : i < nms.length) {nm op enm : Bs} {p : Nat} {K : AV} {a b qp np : Nat} (hrk : RowK op enm K) (hcall : op = Syn.sCall → ∃ j, j < i ∧ ixF enm (nms.take i) 0 = (j : Int)) {k : Nat} (H : AHeap) (hk : H.get k = some (.cells (typC cs i nm op enm p K a b qp np))) :
    Does Tryz.prog (Gof tab) 120 [.ptr k 0, .agg [.str op, .str enm, .int .i64 0, .int .i64 p, K]] H fun r h => r = .int .i64 2 ∧ h = H := by
  have hKi := hrk.sc.2.2
  rcases hrk with ⟨rfl, rfl, rfl⟩ | ⟨rfl, q, rfl⟩
  · exact typ_v h.lt hKi hk
  · obtain ⟨j, hj, hix⟩ := hcall rfl
    have hl : (nms.take i).length = i := by rw [List.length_take]; omega
    obtain ⟨op', enm', p', K', a', b', qp', np', hat, _⟩ := h.at_ j nms[j] (List.getElem?_eq_getElem (by omega))
    refine typ_c (Kp := fun H => H.get k = some (.cells (typC cs i nm Syn.sCall enm p (.vsl (exV q) 1) a b qp np))) hk (fun H H' h1 h2 => h2 _ _ h1) (fun H h1 => typ_v h.lt hKi h1) (fun kb oo H h1 h2 => ?_)
    exact typ_call (h.named i) (by rw [hl]; omega) (by rw [hl]; exact h1) h2 hix (by rw [hl]; exact hj) hat
set_option maxHeartbeats 8000000 in
set_option maxRecDepth 100000 in
theorem typ_row {cs : List AV} {nms : List Bs} (hr : RowN cs nms) (hlen : nms.length ≤ 1000) (H : AHeap) : Does Tryz.prog (Gof tab) 26 [.vsl cs nms.length] H fun r h => r = .agg [.int .i64 0, .int .i64 0] ∧ h = H := by
  refine kept (fun _ => rfl) (Does.wf Tryz.call26 fun hw _ => ?_)
  refine does_f Tryz.call26 Tryz.func26 rfl (by simp [Tryz.f26]) ?_
  obtain ⟨n, hn⟩ : ∃ n, n = nms.length := ⟨_, rfl⟩
  rw [← hn]
  simp
  refine aws_loopw (fun m T' H' => ∃ i : Nat, i + m = n ∧ T' 0 = .vsl cs n ∧ T' 2 = .ptr H.next 0 ∧ T' 6 = .vsl cs n ∧ T' 7 = .int .i64 n ∧ T' 8 = .int .i64 i ∧ H'.get H.next = some (.cells [.int .i64 0, .int .i64 0]) ∧ ∀ j x, H.get j = some x → H'.get j = some x) n ⟨0, by simp, by simp, by simp, by simp, by simp, by simp, by simp, fun j x hj => off1 hw hj⟩ ?_
  rintro m T H1 ⟨i, him, t0, t2, t6, t7, t8, hf, hkp⟩ hw1 _
  by_cases hi : i < n
  · have hii : (i : Int) < n := by omega
    have hil : i < nms.length := by omega
    obtain ⟨op, enm, p, K, a, b, qp, np, hat, hrk, _, hcall⟩ := hr.at_ i nms[i] (List.getElem?_eq_getElem hil)
    generalize nms[i] = nm at *
    obtain ⟨hK, hKc, hKi⟩ := hrk.sc
    have h6 : 6 ≤ cs.length - i * 6 := by
      have := congrArg List.length hat
      rw [List.length_take, List.length_drop] at this
      simp [rowC] at this
      omega
    have wr : IntKind.i64.wrap ((i : Int) + 1) = ((i + 1 : Nat) : Int) := by rw [IntWalk.i64_in _ (by omega)]; omega
    have e0 : H.next ≠ H1.next := by have := (hw1 _ _ hf).1; omega
    have e2 : H.next ≠ H1.next + 1 := by have := (hw1 _ _ hf).1; omega
    have e3 : H1.next ≠ H1.next + 1 := by omega
    have hle : i ≤ n := by omega
    have hle2 : (i : Int) ≤ n := by omega
    simp only [rowC, eqC] at hat
    simp [t0, t2, t6, t7, t8, hii, hi, hat, h6]
    refine aw_drawn [(3, 0)] mixedOrders (by kernel_rfl) ?_
    intro es hes
    have hn0 : 0 < n := by omega
    simp [rds, heapF, t0, t2, t6, t7, t8, hle, hle2, hn0, e3]
    subst hes
    refine ⟨⟨by kernel_rfl, by kernel_rfl⟩, ?_⟩
    refine does_use (typ_node hr.lt hK hKc hKi (cs := cs) (i := i) (nm := nm) (op := op) (enm := enm) (p := p) (a := a) (b := b) (qp := qp) (np := np) (by simp [typC, rowC, eqC]) (fun H h => typ_e hr hlen hil hrk hcall H h)) ?_
    rintro r H4 ⟨rfl, rfl⟩
    simp [t0, t2, t6, t7, t8, e0, e2, e3, hf]
    refine ⟨m - 1, by omega, i + 1, by omega, wr, fun j x hj => ?_⟩
    have := (hw1 _ _ (hkp j x hj)).1
    have f1 : j ≠ H1.next := by omega
    have f2 : j ≠ H1.next + 1 := by omega
    simp [f1, f2, hkp j x hj]
  · obtain rfl : i = n := by omega
    simp [t0, t2, t6, t7, t8, hf]
    intro j x hj
    have := (hw _ _ hj).1
    have f1 : j ≠ H.next := by omega
    simp [f1, hkp j x hj]
end Go.Proofs.YthmnpnbcdoemfaaGreatDoor

namespace Go.Proofs.YthmnpnbcdoemfaaGreatDoor
open Go Go.Abs Go.Lex
set_option linter.unusedSimpArgs false
set_option linter.unusedVariables false
def namesK : Nat → List AV → Option (List Bs)
  | 0, _ => some []
  | n + 1, .str a :: c1 :: c2 :: c3 :: c4 :: c5 :: R => if c1.scalar && c2.scalar && c3.scalar && c4.scalar && c5.scalar then (namesK n R).map (a :: ·) else none
  | _ + 1, _ => none
theorem namesK_named : ∀ {n : Nat} {cs : List AV} {l : List Bs}, namesK n cs = some l → l.length = n ∧ Named cs l
  | 0, cs, l, h => by
    simp only [namesK, Option.some.injEq] at h
    subst h
    exact ⟨rfl, fun i a hi => by simp at hi⟩
  | n + 1, cs, l, h => by
    unfold namesK at h
    split at h
    · rename_i h0; simp at h0
    · rename_i n' a c1 c2 c3 c4 c5 R h0
      obtain rfl : n = n' := by omega
      split at h
      · rename_i hc
        simp only [Bool.and_eq_true] at hc
        obtain ⟨⟨⟨⟨h1, h2⟩, h3⟩, h4⟩, h5⟩ := hc
        obtain ⟨l', hl', rfl⟩ := Option.map_eq_some_iff.1 h
        obtain ⟨g1, g2⟩ := namesK_named hl'
        refine ⟨by simp [g1], fun i b hi => ?_⟩
        cases i with
        | zero =>
          simp only [List.getElem?_cons_zero, Option.some.injEq] at hi
          subst hi
          exact ⟨c1, c2, c3, c4, c5, by simp, h1, h2, h3, h4, h5⟩
        | succ i =>
          obtain ⟨d1, d2, d3, d4, d5, e, g⟩ := g2 i b (by simpa using hi)
          exact ⟨d1, d2, d3, d4, d5, by rw [Nat.succ_mul]; simpa using e, g⟩
      · simp at h
    · simp at h
noncomputable def ixOv (args : List AV) (H : FH) (k : AV → FH → Bool) : Bool := match args with
  | [.vsl cs i, .str nm] => match namesK i cs with
    | some l => ifK (Nat.ble i 1000) (k (.int .i64 (ixF nm l 0)) H) false
    | none => false
  | _ => false
theorem ixOv_good (args : List AV) (H : FH) (k : AV → FH → Bool) (h : ixOv args H k = true) :
    ∃ v H', Does Tryz.prog (Gof tab) 116 args H.abs (fun r h => r = v ∧ h = FH.abs H') ∧ H.next ≤ H'.next ∧ k v H' = true := by
  unfold ixOv at h
  split at h
  · rename_i cs i nm
    split at h
    · rename_i l hl
      obtain ⟨g1, g2⟩ := namesK_named hl
      cases hb : Nat.ble i 1000 with
      | false => rw [hb, ifK_false] at h; simp at h
      | true =>
        rw [hb, ifK_true] at h
        have := Nat.le_of_ble_eq_true hb
        refine ⟨_, H, ?_, Nat.le_refl _, h⟩
        rw [← g1]
        exact node_ix g2 (by omega) nm H.abs
    · simp at h
  · simp at h
noncomputable def knownI : Ov := ovAdd 116 ixOv knownP
theorem knownI_good : OvGoodK Tryz.prog (Gof tab) knownI := ovAdd_good ixOv_good knownP_good
def rowF : Nat → List AV
  | 0 => rowC (Syn.nmF 0) Syn.sVar [120] (Syn.posF 0 + 43) .nilsl (Syn.posF 0 + 9) (Syn.posF 0 + 26) (Syn.posF 0 + 39) (Syn.posF 0)
  | i + 1 => rowC (Syn.nmF (i + 1)) Syn.sCall (Syn.nmF i) (Syn.posF (i + 1) + 43) (.vsl (exV (Syn.posF (i + 1) + 47)) 1) (Syn.posF (i + 1) + 9) (Syn.posF (i + 1) + 26) (Syn.posF (i + 1) + 39) (Syn.posF (i + 1))
def rowsF : Nat → List AV
  | 0 => []
  | i + 1 => rowsF i ++ rowF i
theorem ndCells_F : ∀ i, ndCells (Syn.ndF i) = rowF i
  | 0 => rfl
  | i + 1 => rfl
theorem ndsCells_app : ∀ l l' : List Syn.Nd, ndsCells (l ++ l') = ndsCells l ++ ndsCells l'
  | [], _ => rfl
  | a :: l, l' => by rw [List.cons_append, ndsCells, ndsCells_app l l', ndsCells, List.append_assoc]
theorem ndsCells_F : ∀ n, ndsCells (Syn.ndsF n) = rowsF n
  | 0 => rfl
  | n + 1 => by rw [Syn.ndsF, ndsCells_app, ndsCells_F n, rowsF, ndsCells, ndsCells, List.append_nil, ndCells_F]
theorem rowF_len : ∀ i, (rowF i).length = 6
  | 0 => rfl
  | _ + 1 => rfl
theorem rowsF_len : ∀ n, (rowsF n).length = n * 6
  | 0 => rfl
  | n + 1 => by rw [rowsF, List.length_append, rowsF_len n, rowF_len]; omega
theorem rowsF_split {i : Nat} : ∀ {n : Nat}, i < n → ∃ R, rowsF n = rowsF i ++ (rowF i ++ R)
  | 0, h => by omega
  | n + 1, h => by
    by_cases e : i = n
    · subst e; exact ⟨[], by rw [rowsF, List.append_nil]⟩
    · obtain ⟨R, hR⟩ := rowsF_split (n := n) (i := i) (by omega)
      exact ⟨R ++ rowF n, by rw [rowsF, hR]; simp⟩
def chkC (cs : List AV) (i : Nat) : List AV := .vsl cs i :: (rowF i ++ [.nilmap])
end Go.Proofs.YthmnpnbcdoemfaaGreatDoor
