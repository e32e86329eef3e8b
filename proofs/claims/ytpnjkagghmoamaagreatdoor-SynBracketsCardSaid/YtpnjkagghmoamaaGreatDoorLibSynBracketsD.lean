/-
  Own library of this claim, part 4: texts one behind the other (SyWn, KlA, KlC, Base, KlB, LxK, FrA, FrB, SyBr, FrD, AbsZ, Facts, LxW1, AbsV, LxW2, LxW3, LxW4, LxW5, LxW6, LxW7, LxW8, SyP1, SyP2, SyP3, SyP4, SyP5).
-/
import Derived.ChangeArms
import Derived.DataReads
import Derived.OpenShut
import Derived.LaidLaws
import Derived.FnData
import GoSem.ClaimJoined
import Derived.Test.YtpnjkagghmoamaaGreatDoorRows
import Derived.ProofKit
import Derived.IntWalk
import Derived.Test.YtpnjkagghmoamaaGreatDoorProg
import Derived.KernelRfl
import Derived.Test.YtpnjkagghmoamaaGreatDoorLibSynBracketsC

namespace Go.Syn
open Go.Lex
set_option linter.unusedVariables false
set_option linter.unusedSimpArgs false
variable {W : Ws}
theorem name_wt {s : St} (h : (name W s).2.err = 0) : 1 + nu W (name W s).2 ≤ nu W s := by
  obtain ⟨h1, h2, h3⟩ := name_err0 h
  have : (name W s).2.i = s.i + 1 := by
    unfold name
    simp only [h2, if_true, h1]
  have := nu_succ (W := W) (s := s) (s' := (name W s).2) (by rw [h2]; decide) this
  omega
theorem want1_wt {s : St} {t : Bs} (h : (want1 W s t).err = 0) : 1 + nu W (want1 W s t) ≤ nu W s := by
  cases hi : Syn.is W s t with
  | true =>
    have e : want1 W s t = { s with i := s.i + 1 } := by unfold want1; rw [hi]; rfl
    rw [e]
    have := nu_succ (W := W) (s := s) (s' := { s with i := s.i + 1 }) (is_nz hi) rfl
    omega
  | false =>
    exfalso
    have e : want1 W s t = fail W 7 s := by unfold want1; rw [hi]; rfl
    rw [e] at h
    by_cases q : s.err = 0
    · rw [fail_err q] at h; exact absurd h (by decide)
    · rw [fail_bad q] at h; exact q h
theorem nu_want : ∀ (ts : List Bs) (s : St), nu W (want W s ts) ≤ nu W s
  | [], s => Nat.le_refl _
  | t :: ts, s => Nat.le_trans (nu_want ts (want1 W s t)) (nu_want1 s t)
theorem declared_wt {s : St} (h : (declared W s).2.err = 0) : 1 + nu W (declared W s).2 ≤ nu W s := by
  unfold declared at h ⊢
  simp only at h ⊢
  generalize hs1 : (if (at_ W s).2.kind = 1 then (if 64 < wrap (s.names + 1) then fail W 2 { s with names := wrap (s.names + 1) } else { s with names := wrap (s.names + 1) }) else s) = s1 at h ⊢
  have h1 : s1.i = s.i := by
    rw [← hs1]
    split
    · split
      · exact fail_same _ _
      · rfl
    · rfl
  have a := name_wt h
  have b : nu W s1 ≤ nu W s := nu_le (by omega)
  show 1 + nu W (name W s1).2 ≤ nu W s
  omega
theorem declL_wt : ∀ (k : Nat) (l : List Va) (s : St), (declL W k l s).2.err = 0 → (declL W k l s).1.length + nu W (declL W k l s).2 ≤ l.length + nu W s
  | 0, l, s, h => Nat.le_refl _
  | k + 1, l, s, h => by
    rw [declL] at h ⊢
    cases hq : Syn.is W s [44] with
    | false => exact Nat.le_refl _
    | true =>
      rw [hq, if_pos rfl] at h
      rw [if_pos rfl]
      simp only at h ⊢
      have h2 : (declared W { s with i := s.i + 1 }).2.err = 0 := by
        by_cases q : (declared W { s with i := s.i + 1 }).2.err = 0
        · exact q
        · rw [declL_bad q] at h; exact h
      have a := declared_wt h2
      have b := declL_wt k _ _ h
      have c : nu W { s with i := s.i + 1 } ≤ nu W s := nu_le (Nat.le_succ _)
      simp only [List.length_append, List.length_singleton] at b
      omega
theorem decl_wt {s : St} (h : (decl W s).2.err = 0) : (decl W s).1.length + nu W (decl W s).2 ≤ nu W s := by
  unfold decl at h ⊢
  simp only at h ⊢
  have key : (want1 W (declL W (W.length + 1) [(declared W s).1] (declared W s).2).2 [58]).err = 0 → (declL W (W.length + 1) [(declared W s).1] (declared W s).2).1.length + nu W (want1 W (declL W (W.length + 1) [(declared W s).1] (declared W s).2).2 [58]) ≤ nu W s := by
    intro q
    have h1 := want1_err0 q
    have h2 : (declared W s).2.err = 0 := by
      by_cases q : (declared W s).2.err = 0
      · exact q
      · rw [declL_bad q] at h1; exact h1
    have a := declared_wt h2
    have b := declL_wt _ _ _ h1
    have c := nu_want1 (W := W) (declL W (W.length + 1) [(declared W s).1] (declared W s).2).2 [58]
    simp only [List.length_singleton] at b
    omega
  generalize want1 W (declL W (W.length + 1) [(declared W s).1] (declared W s).2).2 [58] = s2 at *
  generalize (declL W (W.length + 1) [(declared W s).1] (declared W s).2).1 = l at *
  have c : nu W { s2 with i := s2.i + 1 } ≤ nu W s2 := nu_le (Nat.le_succ _)
  by_cases c1 : Syn.is W s2 [98, 111, 111, 108] = true
  · rw [if_pos c1]
    have := key (is_true c1).1
    show (l.map _).length + nu W { s2 with i := s2.i + 1 } ≤ _
    rw [List.length_map]
    omega
  rw [if_neg c1] at h ⊢
  by_cases c2 : Syn.is W s2 [105, 110, 116] = true
  · rw [if_pos c2]
    have := key (is_true c2).1
    show (l.map _).length + nu W { s2 with i := s2.i + 1 } ≤ _
    rw [List.length_map]
    omega
  rw [if_neg c2] at h
  exfalso
  have h : (fail W 7 s2).err = 0 := h
  by_cases q : s2.err = 0
  · rw [fail_err q] at h; exact absurd h (by decide)
  · rw [fail_bad q] at h; exact q h
theorem declsL_wt : ∀ (k : Nat) (l : List Va) (s : St), (declsL W k l s).2.err = 0 → (declsL W k l s).1.length + nu W (declsL W k l s).2 ≤ l.length + nu W s
  | 0, l, s, h => Nat.le_refl _
  | k + 1, l, s, h => by
    rw [declsL] at h ⊢
    cases hq : Syn.is W s [59] with
    | false => exact Nat.le_refl _
    | true =>
      rw [hq, if_pos rfl] at h
      rw [if_pos rfl]
      simp only at h ⊢
      have h2 : (decl W { s with i := s.i + 1 }).2.err = 0 := by
        by_cases q : (decl W { s with i := s.i + 1 }).2.err = 0
        · exact q
        · rw [declsL_bad q] at h; exact h
      have a := decl_wt h2
      have b := declsL_wt k _ _ h
      have c : nu W { s with i := s.i + 1 } ≤ nu W s := nu_le (Nat.le_succ _)
      simp only [List.length_append] at b
      omega
theorem decls_wt {s : St} (h : (decls W s).2.err = 0) : (decls W s).1.length + nu W (decls W s).2 ≤ nu W s := by
  unfold decls at h ⊢
  by_cases c : Syn.kind W s ≠ 1
  · rw [if_pos c]; simp
  rw [if_neg c] at h ⊢
  simp only at h ⊢
  have h2 : (decl W s).2.err = 0 := by
    by_cases q : (decl W s).2.err = 0
    · exact q
    · rw [declsL_bad q] at h; exact h
  have a := decl_wt h2
  have b := declsL_wt _ _ _ h
  omega
theorem local_wt {s : St} (h : (local_ W s).2.err = 0) : (local_ W s).1.length + nu W (local_ W s).2 ≤ nu W s := by
  unfold local_ at h ⊢
  simp only at h ⊢
  have key : (decl W s).2.err = 0 → (decl W s).1.length + nu W (decl W s).2 ≤ nu W s := decl_wt
  generalize decl W s = r at *
  cases hq : Syn.is W r.2 [119, 104, 101, 110] with
  | false =>
    rw [hq, if_neg (by decide)] at h
    rw [if_neg (by decide)]
    exact key h
  | true =>
    rw [hq, if_pos rfl] at h
    rw [if_pos rfl]
    have a := key (is_true hq).1
    have b := nu_name (W := W) (take W { r.2 with i := r.2.i + 1 } [110, 111, 116]).2
    have c := nu_take (W := W) { r.2 with i := r.2.i + 1 } [110, 111, 116]
    have d : nu W { r.2 with i := r.2.i + 1 } ≤ nu W r.2 := nu_le (Nat.le_succ _)
    show (r.1.map _).length + nu W (name W (take W { r.2 with i := r.2.i + 1 } [110, 111, 116]).2).2 ≤ _
    rw [List.length_map]
    omega
theorem localsL_wt : ∀ (k : Nat) (l : List Va) (s : St), (localsL W k l s).2.err = 0 → (localsL W k l s).1.length + nu W (localsL W k l s).2 ≤ l.length + nu W s
  | 0, l, s, h => Nat.le_refl _
  | k + 1, l, s, h => by
    rw [localsL] at h ⊢
    by_cases c : s.err = 0 ∧ Syn.kind W s = 1
    · rw [if_pos c] at h ⊢
      simp only at h ⊢
      have h2 : (want1 W (local_ W s).2 [59]).err = 0 := by
        by_cases q : (want1 W (local_ W s).2 [59]).err = 0
        · exact q
        · rw [localsL_bad q] at h; exact h
      have a := local_wt (want1_err0 h2)
      have b := localsL_wt k _ _ h
      have c := nu_want1 (W := W) (local_ W s).2 [59]
      simp only [List.length_append] at b
      omega
    · rw [if_neg c]; exact Nat.le_refl _
theorem locals_wt {s : St} (h : (locals_ W s).2.err = 0) : (locals_ W s).1.length + nu W (locals_ W s).2 ≤ nu W s := by
  unfold locals_ at h ⊢
  simp only at h ⊢
  have key : (if Syn.kind W s = 1 then local_ W s else ([], s)).2.err = 0 → (if Syn.kind W s = 1 then local_ W s else ([], s)).1.length + nu W (if Syn.kind W s = 1 then local_ W s else ([], s)).2 ≤ nu W s := by
    split
    · exact local_wt
    · intro _; simp
  generalize (if Syn.kind W s = 1 then local_ W s else ([], s)) = r at *
  have h2 : (want1 W r.2 [59]).err = 0 := by
    by_cases q : (want1 W r.2 [59]).err = 0
    · exact q
    · rw [localsL_bad q] at h; exact h
  have a := key (want1_err0 h2)
  have b := localsL_wt _ _ _ h
  have c := nu_want1 (W := W) r.2 [59]
  omega
def eqsWt : List Eqn → Nat
  | [] => 0
  | q :: l => (1 + q.e.wt) + eqsWt l
theorem eqsWt_append : ∀ a b : List Eqn, eqsWt (a ++ b) = eqsWt a + eqsWt b
  | [], b => by simp [eqsWt]
  | q :: a, b => by simp only [List.cons_append, eqsWt, eqsWt_append a b]; omega
theorem eqsL_wt : ∀ (k : Nat) (l : List Eqn) (s : St), (eqsL W k l s).2.err = 0 → eqsWt (eqsL W k l s).1 + nu W (eqsL W k l s).2 ≤ eqsWt l + nu W s
  | 0, l, s, h => Nat.le_refl _
  | k + 1, l, s, h => by
    rw [eqsL] at h ⊢
    by_cases c : s.err = 0 ∧ Syn.kind W s = 1
    · rw [if_pos c] at h ⊢
      simp only at h ⊢
      have key : (if (want1 W (name W s).2 [61]).err = 0 then (lv W 29).expr { want1 W (name W s).2 [61] with parts := 0 } else (.zero, { want1 W (name W s).2 [61] with parts := 0 })).2.err = 0 →
          1 + (if (want1 W (name W s).2 [61]).err = 0 then (lv W 29).expr { want1 W (name W s).2 [61] with parts := 0 } else (.zero, { want1 W (name W s).2 [61] with parts := 0 })).1.wt + nu W (if (want1 W (name W s).2 [61]).err = 0 then (lv W 29).expr { want1 W (name W s).2 [61] with parts := 0 } else (.zero, { want1 W (name W s).2 [61] with parts := 0 })).2 ≤ nu W s := by
        by_cases q : (want1 W (name W s).2 [61]).err = 0
        · rw [if_pos q]
          intro q2
          have a := name_wt (want1_err0 q)
          have b := nu_want1 (W := W) (name W s).2 [61]
          have c := ((lv_gw (W := W) 29).expr).ok _ q2
          have d : nu W { want1 W (name W s).2 [61] with parts := 0 } ≤ nu W (want1 W (name W s).2 [61]) := nu_le (Nat.le_refl _)
          omega
        · rw [if_neg q]
          intro q2
          exact absurd q2 q
      generalize (if (want1 W (name W s).2 [61]).err = 0 then (lv W 29).expr { want1 W (name W s).2 [61] with parts := 0 } else (.zero, { want1 W (name W s).2 [61] with parts := 0 })) = r at *
      have h2 : (want1 W r.2 [59]).err = 0 := by
        by_cases q : (want1 W r.2 [59]).err = 0
        · exact q
        · rw [eqsL_bad q] at h; exact h
      have a := key (want1_err0 h2)
      have b := eqsL_wt k _ _ h
      have c := nu_want1 (W := W) r.2 [59]
      rw [eqsWt_append] at b
      simp only [eqsWt] at b
      omega
    · rw [if_neg c]; exact Nat.le_refl _
def Nd.wt (n : Nd) : Nat := 1 + (n.ins.length + n.outs.length + n.locals.length + eqsWt n.eqs)
theorem node_wt {s : St} (h : (node W s).2.err = 0) : (node W s).1.wt + nu W (node W s).2 ≤ nu W s := by
  unfold node at h ⊢
  simp only at h ⊢
  have k0 : (want1 W { s with names := 0 } [110, 111, 100, 101]).err = 0 → 1 + nu W (want1 W { s with names := 0 } [110, 111, 100, 101]) ≤ nu W s := fun q => by
    have a := want1_wt q
    have b : nu W { s with names := 0 } ≤ nu W s := nu_le (Nat.le_refl _)
    omega
  generalize want1 W { s with names := 0 } [110, 111, 100, 101] = s1 at *
  have k1 : (name W s1).2.err = 0 → nu W (name W s1).2 ≤ nu W s1 ∧ s1.err = 0 := fun q => ⟨nu_name s1, (name_err0 q).1⟩
  generalize name W s1 = r1 at *
  have k2 : (decls W (want1 W r1.2 [40])).2.err = 0 → (decls W (want1 W r1.2 [40])).1.length + nu W (decls W (want1 W r1.2 [40])).2 ≤ nu W r1.2 ∧ r1.2.err = 0 := fun q => ⟨by
    have a := decls_wt q
    have b := nu_want1 (W := W) r1.2 [40]
    omega, by
    by_cases q1 : (want1 W r1.2 [40]).err = 0
    · exact want1_err0 q1
    · rw [decls_bad q1] at q; exact absurd q q1⟩
  generalize decls W (want1 W r1.2 [40]) = r2 at *
  have k3 : (decls W (want W r2.2 [[41], [114, 101, 116, 117, 114, 110, 115], [40]])).2.err = 0 → (decls W (want W r2.2 [[41], [114, 101, 116, 117, 114, 110, 115], [40]])).1.length + nu W (decls W (want W r2.2 [[41], [114, 101, 116, 117, 114, 110, 115], [40]])).2 ≤ nu W r2.2 ∧ r2.2.err = 0 := fun q => ⟨by
    have a := decls_wt q
    have b := nu_want (W := W) [[41], [114, 101, 116, 117, 114, 110, 115], [40]] r2.2
    omega, by
    by_cases q1 : (want W r2.2 [[41], [114, 101, 116, 117, 114, 110, 115], [40]]).err = 0
    · exact wants_err0 q1
    · rw [decls_bad q1] at q; exact absurd q q1⟩
  generalize decls W (want W r2.2 [[41], [114, 101, 116, 117, 114, 110, 115], [40]]) = r3 at *
  have k4 : (take W (want W r3.2 [[41], [59]]) [118, 97, 114]).2.err = 0 → r3.2.err = 0 ∧ nu W (take W (want W r3.2 [[41], [59]]) [118, 97, 114]).2 ≤ nu W r3.2 := fun q => by
    rw [take_err] at q
    exact ⟨wants_err0 q, Nat.le_trans (nu_take _ _) (nu_want _ _)⟩
  generalize take W (want W r3.2 [[41], [59]]) [118, 97, 114] = r4 at *
  have k5 : (if r4.1 = true then locals_ W r4.2 else ([], r4.2)).2.err = 0 → (if r4.1 = true then locals_ W r4.2 else ([], r4.2)).1.length + nu W (if r4.1 = true then locals_ W r4.2 else ([], r4.2)).2 ≤ nu W r4.2 ∧ r4.2.err = 0 := by
    split
    · intro q
      refine ⟨locals_wt q, ?_⟩
      by_cases q1 : r4.2.err = 0
      · exact q1
      · rw [locals_bad q1] at q; exact q
    · intro q
      exact ⟨by simp, q⟩
  generalize (if r4.1 = true then locals_ W r4.2 else ([], r4.2)) = r5 at *
  have k6 : (eqsL W (W.length + 1) [] (want1 W r5.2 [108, 101, 116])).2.err = 0 → eqsWt (eqsL W (W.length + 1) [] (want1 W r5.2 [108, 101, 116])).1 + nu W (eqsL W (W.length + 1) [] (want1 W r5.2 [108, 101, 116])).2 ≤ nu W r5.2 ∧ r5.2.err = 0 := fun q => ⟨by
    have a := eqsL_wt _ _ _ q
    have b := nu_want1 (W := W) r5.2 [108, 101, 116]
    simp only [eqsWt] at a
    omega, by
    by_cases q1 : (want1 W r5.2 [108, 101, 116]).err = 0
    · exact want1_err0 q1
    · rw [eqsL_bad q1] at q; exact absurd q q1⟩
  generalize eqsL W (W.length + 1) [] (want1 W r5.2 [108, 101, 116]) = r6 at *
  have k7 : nu W (take W (want1 W r6.2 [116, 101, 108]) [59]).2 ≤ nu W r6.2 := Nat.le_trans (nu_take _ _) (nu_want1 _ _)
  rw [take_err] at h
  have h6 := want1_err0 h
  obtain ⟨a6, h5⟩ := k6 h6
  obtain ⟨a5, h4⟩ := k5 h5
  obtain ⟨h3, a4⟩ := k4 h4
  obtain ⟨a3, h2⟩ := k3 h3
  obtain ⟨a2, h1⟩ := k2 h2
  obtain ⟨a1, h0⟩ := k1 h1
  have a0 := k0 h0
  simp only [Nd.wt]
  omega
def ndsWt : List Nd → Nat
  | [] => 0
  | n :: l => n.wt + ndsWt l
theorem ndsWt_append : ∀ a b : List Nd, ndsWt (a ++ b) = ndsWt a + ndsWt b
  | [], b => by simp [ndsWt]
  | q :: a, b => by simp only [List.cons_append, ndsWt, ndsWt_append a b]; omega
theorem nodesL_wt : ∀ (k : Nat) (l : List Nd) (s : St), (nodesL W k l s).2.err = 0 → ndsWt (nodesL W k l s).1 + nu W (nodesL W k l s).2 ≤ ndsWt l + nu W s
  | 0, l, s, h => Nat.le_refl _
  | k + 1, l, s, h => by
    rw [nodesL] at h ⊢
    by_cases c : s.err = 0 ∧ (l = [] ∨ Syn.kind W s ≠ 0)
    · rw [if_pos c] at h ⊢
      by_cases c32 : l.length = 32
      · rw [if_pos c32] at h
        rw [fail_err c.1] at h
        exact absurd h (by decide)
      · rw [if_neg c32] at h ⊢
        have key : (node W s).2.err = 0 → (node W s).1.wt + nu W (node W s).2 ≤ nu W s := node_wt
        generalize node W s = r at *
        have h : (nodesL W k (l ++ [r.1]) r.2).2.err = 0 := h
        show ndsWt (nodesL W k (l ++ [r.1]) r.2).1 + nu W (nodesL W k (l ++ [r.1]) r.2).2 ≤ _
        have h2 : r.2.err = 0 := by
          by_cases q : r.2.err = 0
          · exact q
          · have : nodesL W k (l ++ [r.1]) r.2 = (l ++ [r.1], r.2) := by
              cases k with
              | zero => rw [nodesL]
              | succ k => rw [nodesL, if_neg fun x => q x.1]
            rw [this] at h; exact h
        have a := key h2
        have b := nodesL_wt k _ _ h
        rw [ndsWt_append] at b
        simp only [ndsWt] at b
        omega
    · rw [if_neg c]; exact Nat.le_refl _
theorem parse_wt {t : Bs} {l : List Nd} (h : parse t = .ok l) : ndsWt l ≤ 40000 := by
  unfold parse at h
  by_cases hb : 16384 < t.length
  · rw [if_pos hb] at h; simp at h
  rw [if_neg hb] at h
  cases hc : cutS t.length t with
  | error e => rw [hc] at h; simp at h
  | ok ls =>
    rw [hc] at h
    simp only at h
    have hlen := (cut_words _ _ (Nat.lt_succ_self _) _ hc).2.1
    have key := nodesL_wt (W := ls ++ [(t.length, ⟨0, [], 0⟩)]) 33 [] ⟨0, 0, 0, 0, 0⟩
    have hn : nu (ls ++ [(t.length, ⟨0, [], 0⟩)]) ⟨0, 0, 0, 0, 0⟩ = ls.length + 1 := by simp [nu]
    rw [hn] at key
    generalize nodesL (ls ++ [(t.length, ⟨0, [], 0⟩)]) 33 [] ⟨0, 0, 0, 0, 0⟩ = r at *
    by_cases he : r.2.err = 0
    · rw [if_pos he] at h
      simp only [Except.ok.injEq] at h
      subst h
      have := key he
      simp only [ndsWt] at this
      omega
    · rw [if_neg he] at h; simp at h
/-! The texts' lengths -/
theorem vl_tlen {v : Va} (h : WfL v) : (vT v).length ≤ 64 := by
  obtain ⟨w, h⟩ := h
  have key : ∀ {nm : Bs} {k pos : Nat} {w : List Wd}, Vd ⟨nm, k, [], false, pos⟩ w → nm.length ≤ 24 ∧ (k = 1 ∨ k = 2) := by
    intro nm k pos w h
    cases h with
    | bool h => exact ⟨nm_len h, .inl rfl⟩
    | int h => exact ⟨nm_len h, .inr rfl⟩
  cases h with
  | no h =>
    have : ∃ nm k pos, v = ⟨nm, k, [], false, pos⟩ := by cases h <;> exact ⟨_, _, _, rfl⟩
    obtain ⟨nm, k, pos, rfl⟩ := this
    obtain ⟨a, b⟩ := key h
    rcases b with rfl | rfl <;> simp [vT, sBool, sInt] <;> omega
  | on h ho =>
    obtain ⟨a, b⟩ := key h
    have c := nm_len ho
    rcases b with rfl | rfl <;> simp [vT, sBool, sInt, sWhen, wok_ne ho] <;> omega
  | off h ho =>
    obtain ⟨a, b⟩ := key h
    have c := nm_len ho
    rcases b with rfl | rfl <;> simp [vT, sBool, sInt, sWhen, sNot, wok_ne ho] <;> omega
theorem wfV_L {v : Va} (h : WfV v) : WfL v := by
  obtain ⟨w, h⟩ := h
  exact ⟨_, .no h⟩
theorem vs_tlen : ∀ {l : List Va}, (∀ v ∈ l, WfL v) → (vsT l).length ≤ 70 * l.length
  | [], _ => Nat.le_refl _
  | [v], h => by have := vl_tlen (h v (by simp)); simp only [vsT, List.length_singleton]; omega
  | v :: w :: l, h => by
    have a := vl_tlen (h v (by simp))
    have b := vs_tlen (l := w :: l) fun x hx => h x (List.mem_cons_of_mem _ hx)
    simp only [vsT, List.length_append, List.length_cons] at b ⊢
    omega
theorem head_tlen {n : Nd} (h : WfN n) : (headT n).length ≤ 70 + 70 * (n.ins.length + n.outs.length + n.locals.length) := by
  have a := nm_len h.name
  have b := vs_tlen fun v hv => wfV_L (h.ins v hv)
  have c := vs_tlen fun v hv => wfV_L (h.outs v hv)
  have d := vs_tlen h.locals
  unfold headT
  split
  · simp [sNode, sReturns, sLet]
    omega
  · simp [sNode, sReturns, sLet, sVar]
    omega
end Go.Syn

namespace Go.Abs
open Go Go.ChangeShapes
def consec (P : Program) : List Field → Nat → Option Nat
  | [], o => some o
  | f :: r, o => if f.offset = o then consec P r (o + P.cellsOf f.type) else none
def plainTy (P : Program) : Nat → TypeId → Bool
  | 0, _ => false
  | n + 1, t => match P.underlying t with
    | some .bool => P.cellsOf t == 1
    | some (.int _) => P.cellsOf t == 1
    | some .string => P.cellsOf t == 1
    | some (.slice e) => P.cellsOf t == 1 && decide (0 < P.cellsOf e) && plainTy P n e
    | some (.struct fs) => (consec P fs.toList 0 == some (P.cellsOf t)) && fs.toList.all fun f => plainTy P n f.type
    | _ => false
def Shp (P : Program) : Nat → TypeId → List AV → Prop
  | 0, _, _ => False
  | n + 1, t, as_ => match P.underlying t with
    | some .bool => ∃ b, as_ = [.bool b]
    | some (.int k) => ∃ m, as_ = [.int k m] ∧ (Lit.int k m).wf = true
    | some .string => ∃ s, as_ = [.str s] ∧ s.length ≤ maxLen
    | some (.slice e) => as_ = [.nilsl] ∨ ∃ es : List (List AV), as_ = [.vsl es.flatten es.length] ∧ es.length ≤ maxLen ∧ ∀ x ∈ es, Shp P n e x
    | some (.struct fs) => ∃ xs : List (List AV), as_ = xs.flatten ∧ xs.length = fs.toList.length ∧ ∀ (i : Nat) (f : Field) (x : List AV), fs.toList[i]? = some f → xs[i]? = some x → Shp P n f.type x
    | _ => False
theorem Shp.length {P : Program} : ∀ {n : Nat} {t : TypeId} {as_ : List AV}, plainTy P n t = true → Shp P n t as_ → as_.length = P.cellsOf t
  | 0, _, _, h, _ => by simp [plainTy] at h
  | n + 1, t, as_, h, hs => by
    unfold plainTy at h
    unfold Shp at hs
    split at h
    · rename_i hu; rw [hu] at hs; obtain ⟨b, rfl⟩ := hs; simp at h; simp [h]
    · rename_i hu; rw [hu] at hs; obtain ⟨m, rfl, _⟩ := hs; simp at h; simp [h]
    · rename_i hu; rw [hu] at hs; obtain ⟨m, rfl, _⟩ := hs; simp at h; simp [h]
    · rename_i hu; rw [hu] at hs
      simp only [Bool.and_eq_true, beq_iff_eq] at h
      rcases hs with rfl | ⟨es, rfl, _⟩ <;> simp [h.1.1]
    · rename_i fs hu
      rw [hu] at hs
      simp only [Bool.and_eq_true, beq_iff_eq] at h
      obtain ⟨xs, rfl, hl, hx⟩ := hs
      have key : ∀ (l : List Field) (xs : List (List AV)) (o e : Nat), xs.length = l.length → (∀ (i : Nat) (f : Field) (x : List AV), l[i]? = some f → xs[i]? = some x → x.length = P.cellsOf f.type) → consec P l o = some e → o + xs.flatten.length = e := by
        intro l
        induction l with
        | nil => intro xs o e hxl _ hc; simp at hxl; subst hxl; simpa [consec] using hc
        | cons f l ih =>
          intro xs o e hxl hx hc
          cases xs with
          | nil => simp at hxl
          | cons x xs =>
            simp only [consec] at hc
            split at hc <;> try (simp at hc; done)
            have := ih xs _ _ (by simpa using hxl) (fun i f x hf hx' => hx (i + 1) f x (by simpa using hf) (by simpa using hx')) hc
            have h0 := hx 0 f x rfl rfl
            simp only [List.flatten_cons, List.length_append]
            omega
      have := key fs.toList xs 0 _ hl (fun i f x hf hx' => by
        have h2 := h.2
        rw [List.all_eq_true] at h2
        exact Shp.length (h2 f (List.mem_of_getElem? hf)) (hx i f x hf hx')) h.1
      omega
    · simp at h
theorem VRels.blocks {E : Env} {z : Nat} : ∀ (es : List (List AV)) (L : List Value), (∀ (i : Nat) (x : List AV), es[i]? = some x → VRels E x ((L.drop (i * z)).take z)) → VRels E es.flatten (L.take (es.length * z))
  | [], L, _ => by simpa using VRels.nil
  | x :: es, L, h => by
    have h0 := h 0 x rfl
    simp only [Nat.zero_mul, List.drop_zero] at h0
    have ih := VRels.blocks (z := z) es (L.drop z) fun i y hy => by
      have := h (i + 1) y (by simpa using hy)
      rw [List.drop_drop]
      have e : z + i * z = (i + 1) * z := by rw [Nat.add_mul]; omega
      rw [e]; exact this
    have e : L.take ((x :: es).length * z) = L.take z ++ (L.drop z).take (es.length * z) := by
      rw [← List.take_add]
      congr 1
      simp only [List.length_cons, Nat.add_mul]; omega
    rw [e, List.flatten_cons]
    exact h0.append ih
theorem consec_le {P : Program} : ∀ {l : List Field} {o e : Nat}, consec P l o = some e → o ≤ e
  | [], o, e, h => by simp [consec] at h; omega
  | f :: l, o, e, h => by
    simp only [consec] at h
    split at h <;> try (simp at h; done)
    have := consec_le h
    omega
theorem VRels.fields {P : Program} {E : Env} {cs : List Value} : ∀ (l : List Field) (xs : List (List AV)) (o e : Nat), consec P l o = some e → xs.length = l.length → (∀ (i : Nat) (f : Field) (x : List AV), l[i]? = some f → xs[i]? = some x → VRels E x ((cs.drop f.offset).take (P.cellsOf f.type))) → VRels E xs.flatten ((cs.drop o).take (e - o))
  | [], xs, o, e, hc, hl, _ => by
    simp at hl; subst hl
    simp [consec] at hc; subst hc
    simpa using VRels.nil
  | f :: l, [], o, e, _, hl, _ => by simp at hl
  | f :: l, x :: xs, o, e, hc, hl, h => by
    simp only [consec] at hc
    split at hc <;> try (simp at hc; done)
    rename_i ho
    have hle := consec_le hc
    have h0 := h 0 f x rfl rfl
    rw [ho] at h0
    have ih := VRels.fields l xs _ e hc (by simpa using hl) fun i f x hf hx => h (i + 1) f x (by simpa using hf) (by simpa using hx)
    have e1 : (cs.drop o).take (e - o) = (cs.drop o).take (P.cellsOf f.type) ++ (cs.drop (o + P.cellsOf f.type)).take (e - (o + P.cellsOf f.type)) := by
      rw [← List.drop_drop, ← List.take_add]
      congr 1; omega
    rw [e1, List.flatten_cons]
    exact h0.append ih
theorem exists_list {α : Type} {n : Nat} {Q : Nat → α → Prop} (h : ∀ i, i < n → ∃ y, Q i y) : ∃ l : List α, l.length = n ∧ ∀ (i : Nat) (x : α), l[i]? = some x → Q i x := by
  induction n with
  | zero => exact ⟨[], rfl, fun i x h => by simp at h⟩
  | succ n ih =>
    obtain ⟨l, h1, h2⟩ := ih fun i hi => h i (by omega)
    obtain ⟨y, hy⟩ := h n (by omega)
    refine ⟨l ++ [y], by simp [h1], fun i x hx => ?_⟩
    rcases Nat.lt_or_ge i l.length with g | g
    · rw [List.getElem?_append_left g] at hx; exact h2 i x hx
    · rw [List.getElem?_append_right g] at hx
      have : i - l.length = 0 := by
        rcases Nat.eq_zero_or_pos (i - l.length) with e | e
        · exact e
        · rw [List.getElem?_eq_none (by simp; omega)] at hx; simp at hx
      have hin : i = n := by omega
      rw [this] at hx
      simp at hx; subst hx
      rw [hin]; exact hy
section
variable {H : Type} {enc : TypeId × Value → H} {P : Program} {w : World} {base : Nat} {held : Bool}
theorem open_plain : ∀ {n : Nat} {t : TypeId} {fuel : Nat} {cs : List Value} {x : DataW H × List MemPlace}, plainTy P n t = true → DataW.trod enc P w base (fun _ => true) held fuel t cs = some x → ∃ as_, VRels (Env.start w) as_ cs ∧ Shp P n t as_
  | 0, _, _, _, _, h, _ => by simp [plainTy] at h
  | n + 1, t, fuel, cs, x, h, hx => by
    have h0 := h
    unfold plainTy at h
    split at h <;> rename_i hu
    · obtain ⟨b, rfl, _⟩ := DataW.trod_bool hu hx
      exact ⟨[.bool b], .cons (.bool b) .nil, by unfold Shp; rw [hu]; exact ⟨b, rfl⟩⟩
    · obtain ⟨m, rfl, _, hwf⟩ := DataW.trod_int hu hx
      exact ⟨[.int _ m], .cons (.int _ m) .nil, by unfold Shp; rw [hu]; exact ⟨m, rfl, hwf⟩⟩
    · obtain ⟨s, rfl, _, hs⟩ := DataW.trod_string hu hx
      refine ⟨[.str s.data.toList], .cons ?_ .nil, by unfold Shp; rw [hu]; exact ⟨_, rfl, by simpa using hs⟩⟩
      have := VRel.str (E := Env.start w) s.data.toList
      simpa using this
    · rename_i e
      simp only [Bool.and_eq_true, beq_iff_eq, decide_eq_true_eq] at h
      obtain ⟨⟨_, hz⟩, he⟩ := h
      rcases DataW.trod_slice hu hx with ⟨rfl, _⟩ | ⟨a, len, cap, elems, rest, m, _, rfl, _, _, hl, hm, hlen, hel, hsp, _⟩
      · exact ⟨[.nilsl], .cons .nilsl .nil, by unfold Shp; rw [hu]; exact .inl rfl⟩
      · have hq : ∀ i, i < len → ∃ as_ : List AV, ∃ ci, w.cells? base (a.add (i * P.cellsOf e)) (P.cellsOf e) = some ci ∧ VRels (Env.start w) as_ ci ∧ Shp P n e as_ := by
          intro i hi
          have h1 := hel i hi
          rw [List.getElem?_eq_getElem (by omega)] at h1
          cases hc : w.cells? base (a.add (i * P.cellsOf e)) (P.cellsOf e) with
          | none => rw [hc] at h1; simp at h1
          | some ci =>
            rw [hc] at h1
            obtain ⟨as_, h2, h3⟩ := open_plain he h1
            exact ⟨as_, ci, rfl, h2, h3⟩
        obtain ⟨es, hes, hq⟩ := exists_list hq
        have hshp : Shp P (n + 1) t [.vsl es.flatten es.length] := by
          unfold Shp; rw [hu]
          refine .inr ⟨es, rfl, by omega, fun x hx => ?_⟩
          obtain ⟨i, hi⟩ := List.getElem?_of_mem hx
          obtain ⟨_, _, _, h3⟩ := hq i x hi
          exact h3
        refine ⟨_, ?_, hshp⟩
        by_cases hcap : cap = 0
        · have : len = 0 := by omega
          subst hcap; subst this
          have : es = [] := List.eq_nil_of_length_eq_zero hes
          subst this
          exact .cons .vsl0 .nil
        · -- a cell is there, so the address is a plain one
          have hspot : a.spot = none := by
            have key : ∀ ci, w.cells? base (a.add 0) (P.cellsOf e) = some ci → a.spot = none := by
              intro ci hc
              obtain ⟨_, h1, h2⟩ := World.cells?_some hc
              have h3 := h2 0 hz
              rw [List.getElem?_eq_getElem (by omega)] at h3
              have e0 : (a.add 0).add 0 = a := by simp [Addr.add]
              rw [e0] at h3
              unfold World.cell? at h3
              split at h3
              · split at h3
                · simp at h3
                · rename_i hsn; simpa using hsn
              · simp at h3
            by_cases h1 : 0 < len
            · have h2 := hel 0 h1
              rw [List.getElem?_eq_getElem (by omega), Nat.zero_mul] at h2
              cases hc : w.cells? base (a.add 0) (P.cellsOf e) with
              | none => rw [hc] at h2; simp at h2
              | some ci => exact key ci hc
            · have h2 := (hsp rfl).2 0 (by omega)
              have hr := (hsp rfl).1
              have hl0 : len = 0 := by omega
              rw [hl0] at h2
              rw [List.getElem?_eq_getElem (by omega)] at h2
              simp only [Nat.add_zero, Nat.zero_mul] at h2
              cases hc : w.cells? base (a.add 0) (P.cellsOf e) with
              | none => rw [hc] at h2; simp at h2
              | some ci => exact key ci hc
          obtain ⟨B, o, sp⟩ := a
          simp only at hspot
          subst hspot
          refine .cons ?_ .nil
          rw [hes]
          by_cases hl0 : len = 0
          · subst hl0
            have : es = [] := List.eq_nil_of_length_eq_zero hes
            subst this
            exact .vsl InK.nil .nil (Nat.zero_le _)
          · have hadd : ∀ k, (Addr.mk B o none).add k = ⟨B, o + k, none⟩ := fun k => by
              unfold Addr.add
              split
              · rename_i h; subst h; rfl
              · rfl
            -- the block
            obtain ⟨x0, hx0⟩ : ∃ x0, es[0]? = some x0 := ⟨es[0]'(by omega), List.getElem?_eq_getElem (by omega)⟩
            obtain ⟨c0, hc0, _, _⟩ := hq 0 x0 hx0
            obtain ⟨_, hcl0, hce0⟩ := World.cells?_some hc0
            have hce := hce0 0 hz
            rw [List.getElem?_eq_getElem (by omega)] at hce
            have hblk : ∃ c e f, w.heap[B]? = some (.cells c e f) := by
              rw [Nat.zero_mul, hadd] at hce
              unfold World.cell? at hce
              have e0 : (Addr.add ⟨B, o + 0, none⟩ 0).block = B := by simp [Addr.add]
              rw [e0] at hce
              split at hce
              · rename_i c e f hh; exact ⟨c, e, f, hh⟩
              · simp at hce
            obtain ⟨c, ce, cf, hh⟩ := hblk
            have hcell : ∀ k, w.cell? ⟨B, o + k, none⟩ = c[o + k]? := fun k => by
              unfold World.cell?; simp [hh]
            have hb : VRels (Env.start w) es.flatten ((c.toList.drop o).take (es.length * P.cellsOf e)) := VRels.blocks es (c.toList.drop o) fun i x hi => by
              obtain ⟨ci, hci, hv, _⟩ := hq i x hi
              obtain ⟨_, hcl, hcc⟩ := World.cells?_some hci
              have : ci = ((c.toList.drop o).drop (i * P.cellsOf e)).take (P.cellsOf e) := by
                apply List.ext_getElem?
                intro j
                by_cases hj : j < P.cellsOf e
                · rw [← hcc j hj, hadd]
                  have e1 : (Addr.mk B (o + i * P.cellsOf e) none).add j = ⟨B, o + (i * P.cellsOf e + j), none⟩ := by
                    unfold Addr.add
                    split
                    · rename_i h; subst h; rfl
                    · simp [Nat.add_assoc]
                  rw [e1, hcell]
                  simp only [List.getElem?_take, if_pos hj, List.getElem?_drop, Array.getElem?_toList]
                · rw [List.getElem?_eq_none (by omega), List.getElem?_take, if_neg hj]
              rw [← this]; exact hv
            exact .vsl (.inr ⟨c, ce, cf, hh, List.take_prefix _ _⟩) hb hl
    · rename_i fs
      simp only [Bool.and_eq_true, beq_iff_eq] at h
      obtain ⟨hc, hall⟩ := h
      rw [List.all_eq_true] at hall
      obtain ⟨xs, m, _, _, hcl, hxl, hf⟩ := DataW.trod_struct hu hx
      have hq : ∀ i, i < fs.size → ∃ as_ : List AV, ∀ f, fs.toList[i]? = some f → VRels (Env.start w) as_ ((cs.drop f.offset).take (P.cellsOf f.type)) ∧ Shp P n f.type as_ := by
        intro i hi
        have hfi : fs[i]? = some fs[i] := Array.getElem?_eq_getElem hi
        have h1 := hf i _ hfi
        rw [List.getElem?_eq_getElem (by omega)] at h1
        obtain ⟨as_, h2, h3⟩ := open_plain (hall _ (by simp)) h1
        refine ⟨as_, fun f hf' => ?_⟩
        have : fs[i]? = some f := by simpa using hf'
        rw [hfi] at this
        simp only [Option.some.injEq] at this
        subst this
        exact ⟨h2, h3⟩
      obtain ⟨ys, hyl, hq⟩ := exists_list hq
      have hyl' : ys.length = fs.toList.length := by simpa using hyl
      refine ⟨ys.flatten, ?_, ?_⟩
      · have := VRels.fields (P := P) (E := Env.start w) (cs := cs) fs.toList ys 0 _ hc hyl' fun i f x hf hx => (hq i x hx f hf).1
        rw [List.drop_zero, Nat.sub_zero, List.take_of_length_le (by omega)] at this
        exact this
      · unfold Shp; rw [hu]
        exact ⟨ys, rfl, hyl', fun i f x hf hx => (hq i x hx f hf).2⟩
    · simp at h
end
end Go.Abs

namespace Go.Abs
open Go Go.ChangeShapes
def dataAll (f : DataW Unit → Option (List AV)) : List (DataW Unit) → Option (List (List AV))
  | [] => some []
  | d :: r => match f d, dataAll f r with
    | some x, some xs => some (x :: xs)
    | _, _ => none
def dataFields (f : TypeId → DataW Unit → Option (List AV)) : List Field → List (DataW Unit) → Option (List (List AV))
  | [], [] => some []
  | fd :: fs, d :: r => match f fd.type d, dataFields f fs r with
    | some x, some xs => some (x :: xs)
    | _, _ => none
  | _, _ => none
def dataAV (P : Program) (N : String → Option TypeId) : Nat → Bool → TypeId → DataW Unit → Option (List AV)
  | 0, _, _, _ => none
  | n + 1, top, t, d => match P.underlying t, d with
    | some .bool, .lit (.bool b) => some [.bool b]
    | some (.int k), .lit (.int k' m) => if k' = k then some [.int k m] else none
    | some .string, .lit (.string l) => some [.str l]
    | some (.pointer _), .nil => some [.nilptr]
    | some (.pointer e), .ptr d => if 0 < P.cellsOf e then (dataAV P N n false e d).map fun as_ => [.vptr as_] else none
    | some (.array len e), .agg ds => if ds.length = len ∧ P.cellsOf t = len * P.cellsOf e then (dataAll (dataAV P N n top e) ds).map List.flatten else none
    | some (.struct fs), .agg ds => if consec P fs.toList 0 = some (P.cellsOf t) then (dataFields (dataAV P N n top) fs.toList ds).map List.flatten else none
    | some (.interface _), .nil => some [.niliface]
    | some (.interface _), .iface name d => if top = true then match N name with
        | some u => match P.underlying u with
          | some (.pointer _) => match dataAV P N n false u d with
            | some [a] => some [.iface u a]
            | _ => none
          | _ => none
        | none => none
      else none
    | _, _ => none
theorem dataAll_spec {f : DataW Unit → Option (List AV)} : ∀ {ds : List (DataW Unit)} {xs : List (List AV)}, dataAll f ds = some xs → xs.length = ds.length ∧ ∀ (i : Nat) (x : List AV), xs[i]? = some x → ∃ d, ds[i]? = some d ∧ f d = some x
  | [], xs, h => by simp [dataAll] at h; subst h; simp
  | d :: r, xs, h => by
    simp only [dataAll] at h
    split at h <;> try (simp at h; done)
    rename_i x ys h1 h2
    simp only [Option.some.injEq] at h; subst h
    obtain ⟨hl, hx⟩ := dataAll_spec h2
    refine ⟨by simp [hl], fun i y hy => ?_⟩
    cases i with
    | zero => simp at hy; subst hy; exact ⟨d, rfl, h1⟩
    | succ i => simpa using hx i y (by simpa using hy)
theorem dataFields_spec {f : TypeId → DataW Unit → Option (List AV)} : ∀ {fs : List Field} {ds : List (DataW Unit)} {xs : List (List AV)}, dataFields f fs ds = some xs → xs.length = fs.length ∧ ds.length = fs.length ∧ ∀ (i : Nat) (fd : Field) (x : List AV), fs[i]? = some fd → xs[i]? = some x → ∃ d, ds[i]? = some d ∧ f fd.type d = some x
  | [], [], xs, h => by simp [dataFields] at h; subst h; simp
  | [], _ :: _, _, h => by simp [dataFields] at h
  | _ :: _, [], _, h => by simp [dataFields] at h
  | fd :: fs, d :: r, xs, h => by
    simp only [dataFields] at h
    split at h <;> try (simp at h; done)
    rename_i x ys h1 h2
    simp only [Option.some.injEq] at h; subst h
    obtain ⟨hl, hd, hx⟩ := dataFields_spec h2
    refine ⟨by simp [hl], by simp [hd], fun i fd' y hf hy => ?_⟩
    cases i with
    | zero => simp at hf hy; subst hf; subst hy; exact ⟨d, rfl, h1⟩
    | succ i => simpa using hx i fd' y (by simpa using hf) (by simpa using hy)
section
variable {P : Program} {w : World} {N : String → Option TypeId} {sp : Nat → Bool}
theorem add_none (B o k : Nat) : (Addr.mk B o none).add k = ⟨B, o + k, none⟩ := by
  unfold Addr.add
  split
  · rename_i h; subst h; rfl
  · rfl
theorem data_open (hN : ∀ name u u', N name = some u → P.typeName? 3 u' = some name → u' = u) : ∀ {n : Nat} {top : Bool} {t : TypeId} {d : DataW Unit} {as_ : List AV} {fuel : Nat} {cs : List Value} {p : List MemPlace},
    dataAV P N n top t d = some as_ → DataW.trod (fun _ => ()) P w 0 sp false fuel t cs = some (d, p) →
    (top = true → ∀ u v, Value.iface u v ∈ cs → Value.okWide P w .any 0 u v) → VRels (Env.start w) as_ cs
  | 0, _, _, _, _, _, _, _, h, _, _ => by simp [dataAV] at h
  | n + 1, top, t, d, as_, fuel, cs, p, h, hx, ok => by
    unfold dataAV at h
    split at h <;> rename_i hu
    · simp only [Option.some.injEq] at h; subst h
      obtain ⟨b, rfl, he⟩ := DataW.trod_bool hu hx
      simp at he; obtain ⟨rfl, rfl⟩ := he
      exact .cons (.bool _) .nil
    · obtain ⟨m, rfl, he, _⟩ := DataW.trod_int hu hx
      simp at he; obtain ⟨⟨rfl, rfl⟩, rfl⟩ := he
      simp at h; subst h
      exact .cons (.int _ _) .nil
    · simp only [Option.some.injEq] at h; subst h
      obtain ⟨s, rfl, he, _⟩ := DataW.trod_string hu hx
      simp at he; obtain ⟨rfl, rfl⟩ := he
      have := VRel.str (E := Env.start w) s.data.toList
      exact .cons (by simpa using this) .nil
    · simp only [Option.some.injEq] at h; subst h
      cases fuel with
      | zero => simp [DataW.trod] at hx
      | succ m =>
        match cs with
        | [] => simp [DataW.trod, hu] at hx
        | _ :: _ :: _ => simp [DataW.trod, hu] at hx
        | [c] =>
          cases c <;> simp [DataW.trod, hu] at hx
          rename_i o
          cases o with
          | none => exact .cons .nilptr .nil
          | some a =>
            simp only [Option.bind_eq_some_iff, Function.comp, Option.map_eq_some_iff] at hx
            obtain ⟨_, _, _, _, hx⟩ := hx
            simp at hx
    · rename_i e d'
      split at h <;> try (simp at h; done)
      rename_i hz
      simp only [Option.map_eq_some_iff] at h
      obtain ⟨xs, h, rfl⟩ := h
      obtain ⟨m, a, cs', q, rfl, hc, h2, rfl⟩ := ptr_of_trod hu hx
      have hv := data_open hN h h2 (by simp)
      obtain ⟨_, hcl, hce⟩ := World.cells?_some hc
      have h0 := hce 0 hz
      rw [List.getElem?_eq_getElem (by omega)] at h0
      have hspot : a.spot = none := by
        unfold World.cell? at h0
        split at h0
        · split at h0
          · simp at h0
          · rename_i hsn
            have : (a.add 0).spot = a.spot := rfl
            rw [this] at hsn
            simpa using hsn
        · simp at h0
      obtain ⟨B, o, s⟩ := a
      simp only at hspot; subst hspot
      have hblk : ∃ c e f, w.heap[B]? = some (.cells c e f) := by
        rw [add_none] at h0
        unfold World.cell? at h0
        simp only at h0
        split at h0
        · rename_i c e f hh; exact ⟨c, e, f, hh⟩
        · simp at h0
      obtain ⟨c, ce, cf, hh⟩ := hblk
      have hcell : ∀ k, w.cell? ⟨B, o + k, none⟩ = c[o + k]? := fun k => by
        unfold World.cell?; simp [hh]
      have he : cs' = (c.toList.drop o).take (P.cellsOf e) := by
        apply List.ext_getElem?
        intro j
        by_cases hj : j < P.cellsOf e
        · rw [← hce j hj, add_none, hcell]
          simp only [List.getElem?_take, if_pos hj, List.getElem?_drop, Array.getElem?_toList]
        · rw [List.getElem?_eq_none (by omega), List.getElem?_take, if_neg hj]
      refine .cons (.vptr (.inr ⟨c, ce, cf, hh, ?_⟩) hv) .nil
      rw [he]
      exact List.take_prefix _ _
    · rename_i len e ds
      split at h <;> try (simp at h; done)
      rename_i hz
      simp only [Option.map_eq_some_iff] at h
      obtain ⟨xs, h, rfl⟩ := h
      obtain ⟨ys, m, _, hd, hcl, hyl, hy⟩ := DataW.trod_array hu hx
      simp only [Prod.mk.injEq, DataW.agg.injEq] at hd
      obtain ⟨rfl, rfl⟩ := hd
      obtain ⟨hxl, hxs⟩ := dataAll_spec h
      have hxl' : xs.length = len := by simpa [hyl] using hxl
      have := VRels.blocks (E := Env.start w) (z := P.cellsOf e) xs cs fun i x hi => by
        obtain ⟨d, hd, hf⟩ := hxs i x hi
        have hlt : i < len := by rw [← hxl']; exact (List.getElem?_eq_some_iff.1 hi).1
        have h3 := hy i hlt
        rw [List.getElem?_eq_getElem (by omega)] at h3
        have hd' : (ys[i]'(by omega)).1 = d := by simpa [List.getElem?_eq_getElem (show i < ys.length by omega)] using hd
        rw [← hd'] at hf
        exact data_open hN hf h3 fun ht u v hm => ok ht u v (List.mem_of_mem_drop (List.mem_of_mem_take hm))
      rw [hxl', List.take_of_length_le (by omega)] at this
      exact this
    · rename_i fs ds
      split at h <;> try (simp at h; done)
      rename_i hz
      simp only [Option.map_eq_some_iff] at h
      obtain ⟨xs, h, rfl⟩ := h
      obtain ⟨ys, m, _, hd, hcl, hyl, hy⟩ := DataW.trod_struct hu hx
      simp only [Prod.mk.injEq, DataW.agg.injEq] at hd
      obtain ⟨rfl, rfl⟩ := hd
      obtain ⟨hxl, _, hxs⟩ := dataFields_spec h
      have := VRels.fields (P := P) (E := Env.start w) (cs := cs) fs.toList xs 0 _ hz hxl fun i f x hf hi => by
        obtain ⟨d, hd, hff⟩ := hxs i f x hf hi
        have hlt : i < ys.length := by
          have := (List.getElem?_eq_some_iff.1 hd).1
          simpa using this
        have h3 := hy i f (by simpa using hf)
        rw [List.getElem?_eq_getElem hlt] at h3
        have hd' : (ys[i]).1 = d := by simpa [List.getElem?_eq_getElem hlt] using hd
        rw [← hd'] at hff
        exact data_open hN hff h3 fun ht u v hm => ok ht u v (List.mem_of_mem_drop (List.mem_of_mem_take hm))
      rw [List.drop_zero, Nat.sub_zero, List.take_of_length_le (by omega)] at this
      exact this
    · simp only [Option.some.injEq] at h; subst h
      cases fuel with
      | zero => simp [DataW.trod] at hx
      | succ m =>
        match cs with
        | [] => simp [DataW.trod, hu] at hx
        | _ :: _ :: _ => simp [DataW.trod, hu] at hx
        | [c] =>
          cases c <;> simp [DataW.trod, hu] at hx
          · split at hx <;> simp at hx
          · exact .cons .niliface .nil
    · rename_i name d'
      split at h <;> try (simp at h; done)
      rename_i htop
      split at h <;> try (simp at h; done)
      rename_i u hnu
      split at h <;> try (simp at h; done)
      rename_i e hpu
      split at h <;> try (simp at h; done)
      rename_i a ha
      simp only [Option.some.injEq] at h; subst h
      obtain ⟨m, u', v, rfl, hname, h2⟩ := iface_of_trod hu hx
      obtain rfl := hN _ _ _ hnu hname
      have hok := ok htop u' v (by simp)
      have hvs := data_open hN ha h2 (by simp)
      have hv' : ∃ c, v = .pointer c := by
        unfold Value.okWide at hok
        simp only [hpu] at hok
        unfold Cell.okWide at hok
        cases v <;> simp [Cell.ok, hpu] at hok
        exact ⟨_, rfl⟩
      obtain ⟨c, rfl⟩ := hv'
      have hcl : (Value.pointer c).cells.toList = [.pointer c] := rfl
      rw [hcl] at hvs
      cases hvs with | cons hv _ => exact .cons (.iface hv) .nil
    · simp at h
def laidAV (P : Program) (N : String → Option TypeId) (n : Nat) (name : String) (d : DataW Unit) : Option (Nat × List AV) :=
  match P.globalNamed name with
  | some g => match (P.globals[g]?).map (·.type) with
    | some t => (dataAV P N n true t d).map fun as_ => (g, as_)
    | none => none
  | none => none
def laidTab (P : Program) (N : String → Option TypeId) (n : Nat) : List (String × DataW Unit) → Option (List (Nat × List AV))
  | [] => some []
  | (name, d) :: r => match laidAV P N n name d, laidTab P N n r with
    | some x, some xs => some (x :: xs)
    | _, _ => none
def Gof : List (Nat × List AV) → Nat → Option AV
  | [], _ => none
  | (g, as_) :: r, h => if h = g then some (.vptr as_) else Gof r h
theorem laid_rel (hN : ∀ name u u', N name = some u → P.typeName? 3 u' = some name → u' = u) {n : Nat} : ∀ {L : List (String × DataW Unit)} {T : List (Nat × List AV)} {ps : List MemPlace}, laidTab P N n L = some T → DataW.LaidVars P w L ps →
    (∀ b off, MemPlace.cell b off ∈ ps → ∀ u v, w.cell? ⟨b, off, none⟩ = some (.iface u v) → Value.okWide P w .any 0 u v) → GRel (Env.start w) (Gof T)
  | [], T, ps, h, _, _ => by
    simp [laidTab] at h; subst h
    intro g a ha
    simp [Gof] at ha
  | (name, d) :: r, T, ps, h, hL, hok => by
    simp only [laidTab] at h
    split at h <;> try (simp at h; done)
    rename_i x xs h1 h2
    simp only [Option.some.injEq] at h; subst h
    obtain ⟨g, t, cs, fuel, p, q, hg, ht, hv, hd, hr, rfl⟩ := hL
    simp only [laidAV, hg, ht, Option.map_eq_some_iff] at h1
    obtain ⟨as_, h1, rfl⟩ := h1
    have hrest := laid_rel hN h2 hr fun b off hm => hok b off (by simp [hm])
    intro k a ha
    simp only [Gof] at ha
    split at ha
    · rename_i he; subst he
      simp only [Option.some.injEq] at ha; subst ha
      have hvs := data_open hN h1 hd fun _ u v hm => by
        obtain ⟨i, hi⟩ := List.getElem?_of_mem hm
        refine hok k i ?_ u v ?_
        · simp only [List.mem_append, MemPlace.row, List.mem_map, List.mem_range]
          refine .inl (.inl ⟨i, ?_, by simp⟩)
          have := (List.getElem?_eq_some_iff.1 hi).1
          simpa using this
        · rw [World.var?_cell hg hv i]
          simpa using hi
      have hb : ∃ c e, w.heap[k]? = some (.cells cs c e) := by
        simp only [World.var?, hg, Option.bind_some] at hv
        split at hv <;> simp at hv
        subst hv
        rename_i hh; exact ⟨_, _, hh⟩
      obtain ⟨c, e, hb⟩ := hb
      exact .vptr (.inr ⟨cs, c, e, hb, by simp⟩) hvs
    · exact hrest k a ha
theorem laid_met (hN : ∀ name u u', N name = some u → P.typeName? 3 u' = some name → u' = u) {n : Nat} {L : List (String × DataW Unit)} (ht : (laidTab P N n L).isSome = true) (h : laidMet P L w) : GRel (Env.start w) (Gof ((laidTab P N n L).getD [])) := by
  obtain ⟨ps, h1, _, h3⟩ := h
  cases e : laidTab P N n L with
  | none => rw [e] at ht; simp at ht
  | some T => exact laid_rel hN e h1 fun b off hm => (h3 b off hm).2
end
end Go.Abs

namespace Go.Proofs.YtpnjkagghmoamaaGreatDoor
open Go Go.Abs Go.RowKit
noncomputable def named : String → Option TypeId := fun s => if s = "*errors.errorString" then some 380 else none
theorem named_one (name : String) (u u' : TypeId) (h : named name = some u) (h' : Tryz.prog.typeName? 3 u' = some name) : u' = u := by
  unfold named at h
  split at h <;> try (simp at h; done)
  rename_i e; subst e
  simp only [Option.some.injEq] at h; subst h
  exact typeName_ptr_named (nm := "errors.errorString") (by kernel_rfl) (by kernel_rfl) (by decide) u' h'
def seatLaid : List (String × DataW Unit) := [("math/bits.deBruijn32tab", Rows.laid_math_bits_deBruijn32tab), ("math/bits.deBruijn64tab", Rows.laid_math_bits_deBruijn64tab), ("internal/strconv.uint64pow10", Rows.laid_internal_strconv_uint64pow10), ("unicode/utf8.acceptRanges", Rows.laid_unicode_utf8_acceptRanges), ("strconv.ErrRange", Rows.laid_strconv_ErrRange), ("strconv.ErrSyntax", Rows.laid_strconv_ErrSyntax), ("unicode/utf8.first", Rows.laid_unicode_utf8_first)]
noncomputable def tab : List (Nat × List AV) := (laidTab Tryz.prog named 8 seatLaid).getD []
theorem tab_ok : (laidTab Tryz.prog named 8 seatLaid).isSome = true := by kernel_rfl
theorem laid_start {w : World} (h : laidMet Tryz.prog seatLaid w) : GRel (Env.start w) (Gof tab) := laid_met named_one tab_ok h
theorem idx215 : IsIdx Tryz.prog 215 := ⟨⟨Tryz.f215, Tryz.func215, by kernel_rfl, by kernel_rfl, by kernel_rfl, by kernel_rfl⟩⟩
noncomputable def known : Ov := ovAdd 107 (grOv 83 5) (ovAdd 31 (stOv 5) (ovAdd 28 (wsOv 83 5) (ovAdd 284 copyOv (ovAdd 215 idxOv (noOv)))))
theorem known_good (G : Nat → Option AV) : OvGoodK Tryz.prog G known := (ovAdd_good (grOv_good isCheck isGrow) (ovAdd_good (stOv_good isString) (ovAdd_good (wsOv_good isCheck isWrite) (ovAdd_good (copyOv_good isCopy) (ovAdd_good (idxOv_good idx215) (noOv_good _ _))))))
end Go.Proofs.YtpnjkagghmoamaaGreatDoor

namespace Go.Abs
open Go Go.RowKit Go.WideShapes Go.ChangeShapes
section
variable {H : Type} {enc : TypeId × Value → H} {P : Program}
theorem Olds.stays (hl : laidOutB P = true) {W W' : World} (hb : Olds W W') (sp : Nat → Bool) : ∀ {ts : List TypeId} {vs : List Value} {ds : List (DataW H)} {ps : List MemPlace}, (∀ t ∈ ts, P.readableRec t = true ∧ t < P.types.size) →
    DataW.TrodAll enc P W 0 (fun _ => true) true ts vs ds ps → (∀ x ∈ ps, x.block < W.heap.size ∧ sp x.block = true) → DataW.TrodAll enc P W' 0 sp true ts vs ds ps
  | [], [], [], ps, _, h, _ => h
  | t :: ts, v :: vs, d :: ds, ps, ht, h, hp => by
    obtain ⟨p, q, h1, h2, rfl⟩ := h
    obtain ⟨hr, hrow⟩ := ht t (by simp)
    refine ⟨p, q, ?_, Olds.stays hl hb sp (fun t ht' => ht t (by simp [ht'])) h2 (fun x hx => hp x (by simp [hx])), rfl⟩
    exact WideElems.Trod_stays hl hr hrow h1 (fun x hx => hb.same (hp x (by simp [hx])).1) (fun x hx => (hp x (by simp [hx])).2)
  | [], [], _ :: _, _, _, h, _ => h.elim
  | [], _ :: _, _, _, _, h, _ => by cases h
  | _ :: _, [], _, _, _, h, _ => by cases h
  | _ :: _, _ :: _, [], _, _, h, _ => by cases h
theorem open_arg {n : Nat} {t : TypeId} {v : Value} {d : DataW H} {ps : List MemPlace} {W : World} {base : Nat} (ht : plainTy P n t = true) (hs : (match P.underlying t with | some (.struct _) => false | _ => true) = true)
    (hv : Value.okWide P W .any base t v) (h : DataW.Trod enc P W 0 (fun _ => true) true t v d ps) : ∃ a, VRel (Env.start W) a v ∧ Shp P n t [a] := by
  obtain ⟨fuel, h⟩ := h
  obtain ⟨as_, h1, h2⟩ := open_plain ht h
  have hc : v.cells = #[v] := by
    unfold Value.okWide at hv
    have h0 := ht
    cases n with
    | zero => simp [plainTy] at ht
    | succ n =>
      unfold plainTy at ht
      split at ht <;> rename_i hu <;> first
        | (rw [hu] at hs; simp at hs; done)
        | (simp at ht; done)
        | (rw [hu] at hv
           simp only [Cell.okWide, hu] at hv
           cases v <;> first | rfl | (simp [Cell.ok, hu] at hv; done))
  rw [hc] at h1
  cases h1 with | cons h t => cases t; exact ⟨_, h, h2⟩
end
end Go.Abs

namespace Go.Lex
set_option linter.unusedSimpArgs false
open Go.Abs
noncomputable def blankN (n : Nat) : Bool := ifK (Nat.beq n 32) true (ifK (Nat.beq n 9) true (ifK (Nat.beq n 10) true (Nat.beq n 13)))
noncomputable def letterN (n : Nat) : Bool := ifK (Nat.ble 97 n) (Nat.ble n 122) false
noncomputable def digitN (n : Nat) : Bool := ifK (Nat.ble 48 n) (Nat.ble n 57) false
noncomputable def namecN (n : Nat) : Bool := ifK (letterN n) true (ifK (digitN n) true (Nat.beq n 95))
theorem ifK_if {R : Type} (b : Bool) (x y : R) : ifK b x y = if b = true then x else y := by cases b <;> rfl
theorem beq_toNat (b : UInt8) (n : UInt8) : Nat.beq b.toNat n.toNat = (b == n) := by
  rw [Bool.eq_iff_iff, Nat.beq_eq, beq_iff_eq, UInt8.toNat_inj]
theorem blankN_eq (b : UInt8) : blankN b.toNat = isBlank b := by
  have h1 := beq_toNat b 32
  have h2 := beq_toNat b 9
  have h3 := beq_toNat b 10
  have h4 := beq_toNat b 13
  have e1 : (32 : UInt8).toNat = 32 := rfl
  have e2 : (9 : UInt8).toNat = 9 := rfl
  have e3 : (10 : UInt8).toNat = 10 := rfl
  have e4 : (13 : UInt8).toNat = 13 := rfl
  rw [e1] at h1; rw [e2] at h2; rw [e3] at h3; rw [e4] at h4
  simp only [blankN, ifK_if, h1, h2, h3, h4, isBlank]
  cases b == 32 <;> cases b == 9 <;> cases b == 10 <;> cases b == 13 <;> rfl
theorem letterN_eq (b : UInt8) : letterN b.toNat = isLetter b := by
  simp only [letterN, ifK_if, isLetter, Nat.ble_eq]
  by_cases h : 97 ≤ b.toNat
  · rw [if_pos h, decide_eq_true h, Bool.true_and, Bool.eq_iff_iff, Nat.ble_eq, decide_eq_true_eq]
  · rw [if_neg h, decide_eq_false h, Bool.false_and]
theorem digitN_eq (b : UInt8) : digitN b.toNat = isDigit b := by
  simp only [digitN, ifK_if, isDigit, Nat.ble_eq]
  by_cases h : 48 ≤ b.toNat
  · rw [if_pos h, decide_eq_true h, Bool.true_and, Bool.eq_iff_iff, Nat.ble_eq, decide_eq_true_eq]
  · rw [if_neg h, decide_eq_false h, Bool.false_and]
theorem namecN_eq (b : UInt8) : namecN b.toNat = isNamec b := by
  have h1 := beq_toNat b 95
  have e1 : (95 : UInt8).toNat = 95 := rfl
  rw [e1] at h1
  simp only [namecN, ifK_if, letterN_eq, digitN_eq, isNamec, h1]
  cases isLetter b <;> cases isDigit b <;> rfl
noncomputable def frcA (l : Bs) : Bs → (Bs → Bool) → Bool := List.rec (motive := fun _ => Bs → (Bs → Bool) → Bool) (fun m k => revK m [] k) (fun b _ ih m k => natK b.toNat fun n => stepK (ih (UInt8.ofNat n :: m) k)) l
theorem frcA_eq : ∀ (l m : Bs) (k : Bs → Bool), frcA l m k = k (m.reverse ++ l)
  | [], m, k => by
    have e : frcA [] m k = revK m [] k := rfl
    rw [e, revK_eq]
  | b :: l, m, k => by
    have e : frcA (b :: l) m k = natK b.toNat fun n => frcA l (UInt8.ofNat n :: m) k := rfl
    rw [e, natK_eq, frcA_eq l]; simp
noncomputable def is45 (l : Bs) : Bool := List.rec (motive := fun _ => Bool) false (fun b _ _ => Nat.beq b.toNat 45) l
noncomputable def skK (l : Bs) : Bool → (Bs → Bool) → Bool := List.rec (motive := fun _ => Bool → (Bs → Bool) → Bool) (fun _ k => k [])
  (fun b l ih m k => natK b.toNat fun n => ifK m (ifK (Nat.beq n 10) (stepK (ih false k)) (stepK (ih true k)))
    (ifK (blankN n) (stepK (ih false k)) (ifK (Nat.beq n 45) (ifK (is45 l) (stepK (ih true k)) (k (b :: l))) (k (b :: l))))) l
theorem skK_eq : ∀ (l : Bs) (m : Bool) (k : Bs → Bool), skK l m k = k (betw (if m then l.dropWhile (fun b => b != 10) else l))
  | [], m, k => by
    have e : skK [] m k = k [] := rfl
    rw [e]; cases m <;> simp [betw_nil']
  | b :: l, m, k => by
    have e : skK (b :: l) m k = natK b.toNat fun n => ifK m (ifK (Nat.beq n 10) (skK l false k) (skK l true k))
      (ifK (blankN n) (skK l false k) (ifK (Nat.beq n 45) (ifK (is45 l) (skK l true k) (k (b :: l))) (k (b :: l)))) := rfl
    have h10 := beq_toNat b 10
    have h45 := beq_toNat b 45
    have e1 : (10 : UInt8).toNat = 10 := rfl
    have e2 : (45 : UInt8).toNat = 45 := rfl
    rw [e1] at h10; rw [e2] at h45
    rw [e, natK_eq, h10, blankN_eq, h45, skK_eq l, skK_eq l]
    cases m with
    | true =>
      simp only [ifK_if, if_true]
      by_cases hb : b = 10
      · subst hb
        simp only [beq_self_eq_true, if_true, Bool.false_eq_true, if_false]
        rw [List.dropWhile_cons]
        simp only [bne_self_eq_false, Bool.false_eq_true, if_false]
        rw [betw_blank (by decide)]
      · have h1 : (b == 10) = false := by simpa using hb
        have h2 : (b != 10) = true := by simpa using hb
        simp only [h1, Bool.false_eq_true, if_false, if_true]
        rw [List.dropWhile_cons, h2, if_pos rfl]
    | false =>
      simp only [ifK_if, Bool.false_eq_true, if_false, if_true]
      cases hb : isBlank b with
      | true => simp only [if_true]; rw [betw_blank hb]
      | false =>
        simp only [Bool.false_eq_true, if_false]
        by_cases h4 : b = 45
        · subst h4
          simp only [beq_self_eq_true, if_true]
          cases l with
          | nil =>
            have : is45 [] = false := rfl
            rw [this]
            simp only [Bool.false_eq_true, if_false]
            rw [betw_here hb (by simp)]
          | cons c q =>
            have hc : is45 (c :: q) = (c == 45) := by
              have := beq_toNat c 45
              rw [e2] at this
              exact this
            rw [hc]
            by_cases hc4 : c = 45
            · subst hc4
              simp only [beq_self_eq_true, if_true]
              rw [betw_rem, List.dropWhile_cons]
              simp
            · have : (c == 45) = false := by simpa using hc4
              rw [this]
              simp only [Bool.false_eq_true, if_false]
              rw [betw_here hb (by intro q h; simp at h; exact hc4 h.1)]
        · have : (b == 45) = false := by simpa using h4
          rw [this]
          simp only [Bool.false_eq_true, if_false]
          rw [betw_here hb (by intro q h; simp at h; exact h4 h.1)]
noncomputable def spK (p : Nat → Bool) (l : Bs) : Bs → (Bs → Bs → Bool) → Bool := List.rec (motive := fun _ => Bs → (Bs → Bs → Bool) → Bool) (fun m k => revK m [] fun t => k t [])
  (fun b l ih m k => natK b.toNat fun n => ifK (p n) (stepK (ih (b :: m) k)) (revK m [] fun t => k t (b :: l))) l
theorem spK_eq {p : Nat → Bool} {q : UInt8 → Bool} (h : ∀ b, p b.toNat = q b) : ∀ (l m : Bs) (k : Bs → Bs → Bool), spK p l m k = k (m.reverse ++ l.takeWhile q) (l.drop (l.takeWhile q).length)
  | [], m, k => by
    have e : spK p [] m k = revK m [] fun t => k t [] := rfl
    rw [e, revK_eq]; simp
  | b :: l, m, k => by
    have e : spK p (b :: l) m k = natK b.toNat fun n => ifK (p n) (spK p l (b :: m) k) (revK m [] fun t => k t (b :: l)) := rfl
    rw [e, natK_eq, h, spK_eq h l, revK_eq, List.takeWhile_cons]
    cases q b <;> simp
noncomputable def eqN (w : List Nat) : Bs → Bool := List.rec (motive := fun _ => Bs → Bool) (fun s => nilB s) (fun x _ ih s => List.rec (motive := fun _ => Bool) false (fun b r _ => ifK (Nat.beq b.toNat x) (ih r) false) s) w
theorem eqN_eq : ∀ (w : List Nat) (s : Bs), eqN w s = true ↔ s.map (·.toNat) = w
  | [], s => by
    have e : eqN [] s = nilB s := rfl
    rw [e, nilB_eq]; cases s <;> simp
  | x :: w, [] => by
    have e : eqN (x :: w) [] = false := rfl
    rw [e]; simp
  | x :: w, b :: s => by
    have e : eqN (x :: w) (b :: s) = ifK (Nat.beq b.toNat x) (eqN w s) false := rfl
    rw [e, ifK_if]
    by_cases h : b.toNat = x
    · have : Nat.beq b.toNat x = true := by rw [Nat.beq_eq]; exact h
      rw [if_pos this, eqN_eq w s]; simp [h]
    · have : ¬ Nat.beq b.toNat x = true := by rw [Nat.beq_eq]; exact h
      rw [if_neg this]; simp [h]
noncomputable def anyN (ws : List (List Nat)) (s : Bs) : Bool := List.rec (motive := fun _ => Bool) false (fun w _ ih => ifK (eqN w s) true ih) ws
theorem anyN_eq (s : Bs) : ∀ ws : List (List Nat), anyN ws s = true ↔ s.map (·.toNat) ∈ ws
  | [] => by simp [anyN]
  | w :: ws => by
    have e : anyN (w :: ws) s = ifK (eqN w s) true (anyN ws s) := rfl
    rw [e, ifK_if]
    by_cases h : eqN w s = true
    · rw [if_pos h]; simp [(eqN_eq w s).1 h]
    · rw [if_neg h, anyN_eq s ws]
      have : ¬ s.map (·.toNat) = w := fun e => h ((eqN_eq w s).2 e)
      simp [this]
def keptN : List (List Nat) := [[110,111,100,101],[114,101,116,117,114,110,115],[118,97,114],[108,101,116],[116,101,108],[98,111,111,108],[105,110,116],[116,114,117,101],[102,97,108,115,101],[110,111,116],[97,110,100],[111,114],[120,111,114],[109,111,100],[105,102],[116,104,101,110],[101,108,115,101],[112,114,101],[102,98,121],[119,104,101,110],[109,101,114,103,101]]
theorem toNat_map_inj : ∀ {a b : Bs}, a.map (·.toNat) = b.map (·.toNat) → a = b
  | [], [], _ => rfl
  | [], _ :: _, h => by simp at h
  | _ :: _, [], h => by simp at h
  | x :: a, y :: b, h => by
    simp only [List.map_cons, List.cons.injEq] at h
    rw [UInt8.toNat_inj.1 h.1, toNat_map_inj h.2]
theorem keptN_eq (s : Bs) : anyN keptN s = kept s := by
  rw [Bool.eq_iff_iff, anyN_eq]
  have hk : keptN = keptWords.map (fun w => w.map (·.toNat)) := rfl
  unfold kept
  rw [hk, List.mem_map, List.contains_iff_mem]
  constructor
  · rintro ⟨w, hw, e⟩; rw [← toNat_map_inj e]; exact hw
  · intro h; exact ⟨s, h, rfl⟩
noncomputable def prN (w : List Nat) : Bs → (Bs → Bool) → Bool → Bool := List.rec (motive := fun _ => Bs → (Bs → Bool) → Bool → Bool) (fun s k _ => k s)
  (fun x _ ih s k z => List.rec (motive := fun _ => Bool) z (fun b r _ => ifK (Nat.beq b.toNat x) (ih r k z) z) s) w
theorem prN_eq : ∀ (w s : Bs) (k : Bs → Bool) (z : Bool), prN (w.map (·.toNat)) s k z = if w.isPrefixOf s then k (s.drop w.length) else z
  | [], s, k, z => by
    have e : prN (([] : Bs).map (·.toNat)) s k z = k s := rfl
    rw [e]; simp
  | x :: w, [], k, z => by
    have e : prN ((x :: w).map (·.toNat)) [] k z = z := rfl
    rw [e]; simp
  | x :: w, b :: s, k, z => by
    have e : prN ((x :: w).map (·.toNat)) (b :: s) k z = ifK (Nat.beq b.toNat x.toNat) (prN (w.map (·.toNat)) s k z) z := rfl
    rw [e, beq_toNat, prN_eq w s, ifK_if]
    by_cases h : b = x
    · subst h; simp
    · have h1 : (b == x) = false := by simpa using h
      have h2 : (x == b) = false := by simpa using fun e => h e.symm
      rw [h1]; simp [List.isPrefixOf, h2]
noncomputable def sgK (ws : List Bs) (s : Bs) (k : Bs → Bs → Bool) (z : Bool) : Bool := List.rec (motive := fun _ => Bool) z (fun w _ ih => prN (w.map (·.toNat)) s (fun r => k w r) ih) ws
theorem sgK_eq (s : Bs) (k : Bs → Bs → Bool) (z : Bool) : ∀ ws : List Bs, sgK ws s k z = match ws.find? fun x => x.isPrefixOf s with | some t => k t (s.drop t.length) | none => z
  | [] => rfl
  | w :: ws => by
    have e : sgK (w :: ws) s k z = prN (w.map (·.toNat)) s (fun r => k w r) (sgK ws s k z) := rfl
    rw [e, prN_eq, sgK_eq s k z ws, List.find?_cons]
    cases w.isPrefixOf s <;> rfl
noncomputable def numN (l : Bs) : Nat → Nat := List.rec (motive := fun _ => Nat → Nat) (fun n => n) (fun b _ ih n => natK (Nat.add (Nat.mul 10 n) (Nat.sub b.toNat 48)) fun n => ih n) l
theorem numN_eq : ∀ (l : Bs) (n : Nat), numN l n = l.foldl (fun n b => 10 * n + (b.toNat - 48)) n
  | [], n => rfl
  | b :: l, n => by
    have e : numN (b :: l) n = natK (10 * n + (b.toNat - 48)) fun n => numN l n := rfl
    rw [e, natK_eq, numN_eq l]; rfl
noncomputable def wdK (s : Bs) (k : Nat → Bs → Nat → Bs → Bool) (z : Bool) : Bool :=
  List.rec (motive := fun _ => Bool) z (fun b _ _ => natK b.toNat fun n =>
    ifK (letterN n) (spK namecN s [] fun t r => ifK (anyN keptN t) (k 2 t 0 r) (ifK (Nat.ble (lenN t) 24) (k 1 t 0 r) z))
      (ifK (digitN n) (spK digitN s [] fun t r => natK (numN t 0) fun v => ifK (Nat.blt v 9223372036854775808) (ifK (Nat.beq (lenN t) 1) (k 3 t v r) (ifK (Nat.beq n 48) z (k 3 t v r))) z)
        (sgK signs s (fun t r => k 4 t 0 r) z))) s
theorem wdK_eq (s : Bs) (k : Nat → Bs → Nat → Bs → Bool) (z : Bool) : wdK s k z = match wordS s with | some w => k w.kind w.text w.n (s.drop w.text.length) | none => z := by
  cases s with
  | nil => rfl
  | cons b r =>
    have e : wdK (b :: r) k z = natK b.toNat fun n =>
      ifK (letterN n) (spK namecN (b :: r) [] fun t r => ifK (anyN keptN t) (k 2 t 0 r) (ifK (Nat.ble (lenN t) 24) (k 1 t 0 r) z))
      (ifK (digitN n) (spK digitN (b :: r) [] fun t r => natK (numN t 0) fun v => ifK (Nat.blt v 9223372036854775808) (ifK (Nat.beq (lenN t) 1) (k 3 t v r) (ifK (Nat.beq n 48) z (k 3 t v r))) z)
        (sgK signs (b :: r) (fun t r => k 4 t 0 r) z)) := rfl
    have h48 := beq_toNat b 48
    have e1 : (48 : UInt8).toNat = 48 := rfl
    rw [e1] at h48
    rw [e]
    simp only [natK_eq, letterN_eq, digitN_eq, spK_eq namecN_eq, spK_eq digitN_eq, keptN_eq, lenN_eq, numN_eq, sgK_eq, ifK_if, List.reverse_nil, List.nil_append, h48, wordS, signOf, numVal, Nat.ble_eq, Nat.beq_eq, Nat.blt_eq, beq_iff_eq]
    by_cases h1 : isLetter b = true
    · simp only [Bool.false_eq_true, h1, if_true]
      by_cases h2 : kept (List.takeWhile isNamec (b :: r)) = true
      · simp only [Bool.false_eq_true, h2, if_true]
      · simp only [Bool.false_eq_true, h2, if_false]
        by_cases h3 : (List.takeWhile isNamec (b :: r)).length ≤ 24
        · simp only [Bool.false_eq_true, h3, if_true]
        · simp only [Bool.false_eq_true, h3, if_false]
    · simp only [Bool.false_eq_true, h1, if_false]
      by_cases h2 : isDigit b = true
      · simp only [Bool.false_eq_true, h2, if_true]
        by_cases h3 : List.foldl (fun n b => 10 * n + (b.toNat - 48)) 0 (List.takeWhile isDigit (b :: r)) < 9223372036854775808
        · by_cases h4 : (List.takeWhile isDigit (b :: r)).length = 1
          · simp only [Bool.false_eq_true, h3, h4, if_true, true_or, and_self]
          · have e48 : (b.toNat = 48) ↔ b = 48 := by
              have := beq_toNat b 48
              rw [e1] at this
              rw [← Nat.beq_eq, this, beq_iff_eq]
            by_cases h5 : b = 48
            · have h6 := e48.2 h5
              have h7 : ¬ (List.foldl (fun n b => 10 * n + (b.toNat - 48)) 0 (List.takeWhile isDigit (b :: r)) < 9223372036854775808 ∧ ((List.takeWhile isDigit (b :: r)).length = 1 ∨ b ≠ 48)) := fun ⟨_, x⟩ => by
                rcases x with x | x
                · exact h4 x
                · exact x h5
              have h5' := eq_true h5
              have h6' := eq_true h6
              simp only [h3, h4, h5', h6', ne_eq, not_true_eq_false, if_true, if_false, or_self, and_false]
            · have h6 : ¬ b.toNat = 48 := fun e => h5 (e48.1 e)
              simp only [h3, h4, h5, h6, ne_eq, not_false_eq_true, if_true, if_false, or_true, and_self]
        · simp only [Bool.false_eq_true, h3, if_false, false_and]
      · simp only [Bool.false_eq_true, h2, if_false]
        cases List.find? (fun x => x.isPrefixOf (b :: r)) signs <;> rfl
noncomputable def ctK (n : Nat) (fuel : Nat) : Bs → List AV → Nat → (List AV → Nat → Bool) → (Nat → Bool) → Bool :=
  Nat.rec (motive := fun _ => Bs → List AV → Nat → (List AV → Nat → Bool) → (Nat → Bool) → Bool) (fun _ _ _ _ _ => false)
    (fun _ ih s m c k z => skK s false fun r => List.rec (motive := fun _ => Bool) (revK (.int .i64 (.ofNat n) :: .int .i64 (.ofNat 0) :: .str [] :: .int .i64 (.ofNat 0) :: m) [] fun cs => natK (Nat.succ c) fun c => k cs c)
      (fun _ _ _ => natK (Nat.sub n (lenN r)) fun at_ => wdK r (fun kd t v q => natK (Nat.succ c) fun c => stepK (ih q (.int .i64 (.ofNat at_) :: .int .i64 (.ofNat v) :: .str t :: .int .i64 (.ofNat kd) :: m) c k z)) (z at_)) r) fuel
def cellsW : List (Nat × Wd) → List AV
  | [] => []
  | (i, w) :: l => [.int .i64 w.kind, .str w.text, .int .i64 w.n, .int .i64 i] ++ cellsW l
theorem ctK_inv (n : Nat) : ∀ (fuel : Nat) (s : Bs) (m : List AV) (c : Nat) (k : List AV → Nat → Bool) (z : Nat → Bool), ctK n fuel s m c k z = true →
    (match cutS n s with
    | .ok l => k (m.reverse ++ cellsW l ++ [.int .i64 0, .str [], .int .i64 0, .int .i64 n]) (c + l.length + 1)
    | .error e => z e) = true
  | 0, s, m, c, k, z, h => by have h : false = true := h; simp at h
  | fuel + 1, s, m, c, k, z, h => by
    have h : (skK s false fun r => List.rec (motive := fun _ => Bool) (revK (.int .i64 (.ofNat n) :: .int .i64 (.ofNat 0) :: .str [] :: .int .i64 (.ofNat 0) :: m) [] fun cs => natK (Nat.succ c) fun c => k cs c)
      (fun _ _ _ => natK (Nat.sub n (lenN r)) fun at_ => wdK r (fun kd t v q => natK (Nat.succ c) fun c => ctK n fuel q (.int .i64 (.ofNat at_) :: .int .i64 (.ofNat v) :: .str t :: .int .i64 (.ofNat kd) :: m) c k z) (z at_)) r) = true := h
    rw [skK_eq] at h
    simp only [Bool.false_eq_true, if_false] at h
    cases hb : betw s with
    | nil =>
      rw [hb] at h
      simp only [revK_eq, natK_eq] at h
      rw [cutS_end hb]
      simpa [cellsW] using h
    | cons b r =>
      rw [hb] at h
      simp only [natK_eq, lenN_eq, wdK_eq] at h
      cases hw : wordS (b :: r) with
      | none =>
        rw [hw] at h
        rw [cutS_bad hb hw]
        exact h
      | some w =>
        rw [hw] at h
        rw [cutS_word hb hw]
        have ih := ctK_inv n fuel _ _ _ _ _ h
        revert ih
        cases cutS n ((b :: r).drop w.text.length) with
        | ok l =>
          intro ih
          have e : c + (((n - (b :: r).length, w) :: l).length) + 1 = c.succ + l.length + 1 := by simp; omega
          simp only [e]
          simpa [cellsW] using ih
        | error e => exact fun ih => ih
noncomputable def cutOv (args : List AV) (H : FH) (k : AV → FH → Bool) : Bool :=
  oneKK args (fun a => a.onStr false fun s => natK (lenN s) fun n => ifK (Nat.ble n 140737488355328) (ifK (Nat.ble n 16384)
    (frcA s [] fun s => ctK n (Nat.succ n) s [] 0 (fun cs c => k (.tuple [.vsl cs c, .agg [.int .i64 (.ofNat 0), .int .i64 (.ofNat 0)]]) H) (fun e => k (.tuple [.nilsl, .agg [.int .i64 (.ofNat 7), .int .i64 (.ofNat e)]]) H))
    (k (.tuple [.nilsl, .agg [.int .i64 (.ofNat 2), .int .i64 (.ofNat n)]]) H)) false) false
def cutA (t : Bs) : AV := if 16384 < t.length then .tuple [.nilsl, .agg [.int .i64 2, .int .i64 t.length]] else match cutS t.length t with
  | .ok l => .tuple [.vsl (cellsW l ++ [.int .i64 0, .str [], .int .i64 0, .int .i64 t.length]) (l.length + 1), .agg [.int .i64 0, .int .i64 0]]
  | .error e => .tuple [.nilsl, .agg [.int .i64 7, .int .i64 e]]
theorem cutOv_inv {args : List AV} {H : FH} {k : AV → FH → Bool} (h : cutOv args H k = true) : ∃ s : Bs, args = [.str s] ∧ s.length ≤ 140737488355328 ∧ k (cutA s) H = true := by
  obtain ⟨a, rfl, h0⟩ := oneKK_inv h
  rcases AV.onStr_inv h0 with ⟨s, rfl, h1⟩ | ⟨h1, _⟩
  case inr => simp at h1
  clear h h0
  rw [natK_eq, lenN_eq] at h1
  obtain ⟨hb, h⟩ := ifK_inv h1
  clear h1
  have hb : s.length ≤ 140737488355328 := Nat.le_of_ble_eq_true hb
  refine ⟨s, rfl, hb, ?_⟩
  simp only [ifK_if, Nat.ble_eq] at h
  by_cases hl : s.length ≤ 16384
  · rw [if_pos hl, frcA_eq] at h
    have h1 := ctK_inv _ _ _ _ _ _ _ h
    simp only [List.reverse_nil, List.nil_append, Nat.zero_add] at h1
    unfold cutA
    rw [if_neg (by omega)]
    cases hc : cutS s.length s with
    | ok l => rw [hc] at h1; exact h1
    | error e => rw [hc] at h1; exact h1
  · rw [if_neg hl] at h
    unfold cutA
    rw [if_pos (by omega)]
    exact h
end Go.Lex

namespace Go.Abs
open Go
noncomputable def Env.asideF (E : Env) (H : AHeap) (w : World) : Env := by
  classical
  exact { φ := fun _ => none, K := E.K, F := fun B => if (∃ i x p, H.get i = some x ∧ E.φ i = some p ∧ p.b = B) then w.heap[B]? else E.F B, os := E.os, out := E.out }
theorem aside_live {E : Env} {H : AHeap} {w : World} {B i : Nat} {x : AObj} {p : Place} (hi : H.get i = some x) (hp : E.φ i = some p) (hb : p.b = B) : (E.asideF H w).F B = w.heap[B]? := by
  unfold Env.asideF
  exact if_pos ⟨i, x, p, hi, hp, hb⟩
theorem aside_cases (E : Env) (H : AHeap) (w : World) (B : Nat) : (E.asideF H w).F B = E.F B ∨ (∃ i x p, H.get i = some x ∧ E.φ i = some p ∧ p.b = B) := by
  by_cases h : ∃ i x p, H.get i = some x ∧ E.φ i = some p ∧ p.b = B
  · exact .inr h
  · left; unfold Env.asideF; exact if_neg h
theorem Does.frame {P : Program} {G : Nat → Option AV} {f : FuncId} {args : List AV} {n : Nat} {R : AV → AHeap → Prop} (h : Does P G f args (AHeap.empty n) R) (ha : AV.allLt 0 args = true) (hG : ∀ g a, G g = some a → a.idLt 0 = true)
    (hr : ∀ r H1, R r H1 → r.idLt 0 = true) (H : AHeap) : Does P G f args H fun r h => (∃ H1, R r H1) ∧ h = H :=
  ⟨fun E w vs hR hG' hv => by
    have hlive : ∀ i x p, H.get i = some x → E.φ i = some p → E.K p.b = none ∧ E.F p.b = none ∧ ∃ ob, w.heap[p.b]? = some ob ∧ ORel E p x ob := fun i x p hi hp => by
      obtain ⟨q, ob, h1, h2, h3, h4, h5⟩ := hR.live i x hi
      rw [hp] at h1; cases h1
      exact ⟨h2, h3, ob, h4, h5⟩
    have hR0 : Rel (E.asideF H w) (AHeap.empty n) w := by
      refine ⟨hR.os, hR.out, hR.K, fun B o hB => ?_, fun B => ?_, fun i p hp => ?_, fun i x hi => ?_, fun i j x y p q hi => ?_⟩
      · rcases aside_cases E H w B with e | ⟨i, x, p, hi, hp, rfl⟩
        · rw [e] at hB; exact hR.F B o hB
        · rw [aside_live hi hp rfl] at hB; exact hB
      · rcases aside_cases E H w B with e | ⟨i, x, p, hi, hp, rfl⟩
        · rw [e]; exact hR.KF B
        · exact .inl (hlive i x p hi hp).1
      · have : (none : Option Place) = some p := hp
        simp at this
      · simp [AHeap.empty] at hi
      · simp [AHeap.empty] at hi
    have kn : Knows (E.cut 0) (E.asideF H w) := ⟨fun i p hp => by simp [Env.cut] at hp, fun _ _ h => h⟩
    refine (h.run _ w vs hR0 (fun g a hga => (VRel.cut (hG' g a hga) (hG g a hga)).mono kn) ((VRels.cut hv ha).mono kn)).mono ?_
    rintro v w' ⟨r, H1, E1, g1, g2, g3, g4⟩
    have hKE : ∀ B o, E.K B = some o → E1.K B = some o := g2.K
    have hF1 : E1.F = (E.asideF H w).F := g2.F
    have hkn : Knows E { E with K := E1.K } := ⟨fun _ _ h => h, hKE⟩
    refine ⟨r, H, { E with K := E1.K }, ⟨⟨H1, g1⟩, rfl⟩, ⟨fun _ _ h => h, hKE, rfl, rfl, rfl⟩, ?_, ?_⟩
    · exact VRel.mono (E := E1.cut 0) (E' := { E with K := E1.K }) ⟨fun i p hp => by simp [Env.cut] at hp, fun _ _ h => h⟩ (VRel.cut g3 (hr r H1 g1))
    · refine ⟨g4.os.trans g2.os, g4.out.trans g2.out, g4.K, fun B o hB => ?_, fun B => ?_, hR.dom, fun i x hi => ?_, hR.inj⟩
      · refine g4.F B o ?_
        rw [hF1]
        rcases aside_cases E H w B with e | ⟨i, x, p, hi, hp, rfl⟩
        · rw [e]; exact hB
        · have h2 := (hlive i x p hi hp).2.1
          have hB : E.F p.b = some o := hB
          rw [h2] at hB; simp at hB
      · rcases g4.KF B with e | e
        · exact .inl e
        · rw [hF1] at e
          rcases aside_cases E H w B with e' | ⟨i, x, p, hi, hp, rfl⟩
          · rw [e'] at e; exact .inr e
          · exact .inr (hlive i x p hi hp).2.1
      · obtain ⟨p, ob, h1, h2, h3, h4, h5⟩ := hR.live i x hi
        have hF0 : E1.F p.b = some ob := by rw [hF1, aside_live hi h1 rfl]; exact h4
        refine ⟨p, ob, h1, ?_, h3, g4.F _ _ hF0, h5.mono hkn⟩
        rcases g4.KF p.b with e | e
        · exact e
        · rw [hF0] at e; simp at e⟩
end Go.Abs

namespace Go.Abs
open Go
def optAll {α : Type} : List (Option α) → Option (List α)
  | [] => some []
  | none :: _ => none
  | some a :: l => (optAll l).map (a :: ·)
def AV.res (get : Nat → Option AObj) : Nat → AV → Option AV
  | 0, _ => none
  | n + 1, v => match v with
    | .ptr i o => match get i with
      | some (.cells cs) => (optAll ((cs.drop o).map (AV.res get n))).map .vptr
      | _ => none
    | .sl i o z len _ _ => match get i with
      | some (.cells cs) => (optAll (((cs.drop o).take (len * z)).map (AV.res get n))).map (.vsl · len)
      | _ => none
    | .vptr cs => (optAll (cs.map (AV.res get n))).map .vptr
    | .vsl cs len => (optAll (cs.map (AV.res get n))).map (.vsl · len)
    | .func f a b => match optAll (a.map (AV.res get n)), optAll (b.map (AV.res get n)) with
      | some a, some b => some (.func f a b)
      | _, _ => none
    | .iface t v => (AV.res get n v).map (.iface t)
    | .agg cs => (optAll (cs.map (AV.res get n))).map .agg
    | .tuple cs => (optAll (cs.map (AV.res get n))).map .tuple
    | .map _ => none
    | v => some v
def Env.all (E : Env) (w : World) : Env := { E with K := fun B => match E.F B with | some _ => none | none => w.heap[B]? }
theorem all_ext {E : Env} {H : AHeap} {w : World} (hR : Rel E H w) : Ext E (E.all w) := by
  refine ⟨fun _ _ h => h, fun B o hB => ?_, rfl, rfl, rfl⟩
  have hF : E.F B = none := by
    rcases hR.KF B with e | e
    · rw [hB] at e; simp at e
    · exact e
  show (match E.F B with | some _ => none | none => w.heap[B]?) = some o
  rw [hF]; exact hR.K B o hB
theorem all_rel {E : Env} {H : AHeap} {w : World} (hR : Rel E H w) : Rel (E.all w) (AHeap.empty H.next) w := by
  refine ⟨hR.os, hR.out, fun B o hB => ?_, hR.F, fun B => ?_, hR.dom, fun i x hi => by simp [AHeap.empty] at hi, fun i j x y p q hi => by simp [AHeap.empty] at hi⟩
  · have hB : (match E.F B with | some _ => none | none => w.heap[B]?) = some o := hB
    split at hB
    · simp at hB
    · exact hB
  · cases hF : E.F B with
    | none => exact .inr hF
    | some o =>
      left
      show (match E.F B with | some _ => none | none => w.heap[B]?) = none
      rw [hF]
theorem live_ink {E : Env} {H : AHeap} {w : World} (hR : Rel E H w) {i : Nat} {cs : List AV} {p : Place} (hi : H.get i = some (.cells cs)) (hp : E.φ i = some p) (o : Nat) :
    ∃ vs, InK (E.all w) p.b (p.s + o) vs ∧ VRels E (cs.drop o) vs := by
  obtain ⟨q, ob, h1, h2, h3, h4, c, e, fz, vs, rfl, _, h6, h7, _⟩ := hR.live i _ hi
  rw [hp] at h1; cases h1
  refine ⟨vs.drop o, .inr ⟨c, e, fz, ?_, ?_⟩, h6.drop o⟩
  · show (match E.F p.b with | some _ => none | none => w.heap[p.b]?) = _
    rw [h3]; exact h4
  · obtain ⟨t, ht⟩ := h7
    rw [← List.drop_drop, ← ht]
    by_cases ho : o ≤ vs.length
    · rw [List.drop_append_of_le_length ho]; exact List.prefix_append _ _
    · rw [List.drop_of_length_le (by omega)]; exact List.nil_prefix
theorem res_list {E' : Env} {E : Env} {get : Nat → Option AObj} {n : Nat} (ih : ∀ v u r, VRel E v u → v.res get n = some r → VRel E' r u) : ∀ {vs us rs}, VRels E vs us → optAll (vs.map (AV.res get n)) = some rs → VRels E' rs us
  | [], us, rs, h, hr => by
    cases h
    simp [optAll] at hr; subst hr; exact .nil
  | v :: vs, us, rs, h, hr => by
    cases h with
    | cons h t =>
      simp only [List.map_cons] at hr
      cases hv : AV.res get n v with
      | none => rw [hv] at hr; simp [optAll] at hr
      | some a =>
        rw [hv] at hr
        simp only [optAll, Option.map_eq_some_iff] at hr
        obtain ⟨l, hl, rfl⟩ := hr
        exact .cons (ih _ _ _ h hv) (res_list ih t hl)
theorem VRel.res {E : Env} {H : AHeap} {w : World} (hR : Rel E H w) : ∀ (n : Nat) (v : AV) (u : Value) (r : AV), VRel E v u → v.res H.get n = some r → VRel (E.all w) r u
  | 0, v, u, r, _, hr => by simp [AV.res] at hr
  | n + 1, v, u, r, h, hr => by
    have ih := VRel.res hR n
    have hk := (all_ext hR).knows
    cases h with
    | bool b => simp [AV.res] at hr; subst hr; exact .bool b
    | int k m => simp [AV.res] at hr; subst hr; exact .int k m
    | str s => simp [AV.res] at hr; subst hr; exact .str s
    | nilptr => simp [AV.res] at hr; subst hr; exact .nilptr
    | nilsl => simp [AV.res] at hr; subst hr; exact .nilsl
    | nilmap => simp [AV.res] at hr; subst hr; exact .nilmap
    | nilfunc => simp [AV.res] at hr; subst hr; exact .nilfunc
    | niliface => simp [AV.res] at hr; subst hr; exact .niliface
    | map h => simp [AV.res] at hr
    | vsl0 => simp [AV.res, optAll] at hr; subst hr; exact .vsl0
    | @ptr i o p h =>
      simp only [AV.res] at hr
      split at hr <;> try (simp at hr; done)
      rename_i cs hi
      simp only [Option.map_eq_some_iff] at hr
      obtain ⟨rs, hr, rfl⟩ := hr
      obtain ⟨vs, h1, h2⟩ := live_ink hR hi h o
      exact .vptr h1 (res_list ih h2 hr)
    | @sl i o z len cap c' opn p h hl hc ho hn =>
      simp only [AV.res] at hr
      split at hr <;> try (simp at hr; done)
      rename_i cs hi
      simp only [Option.map_eq_some_iff] at hr
      obtain ⟨rs, hr, rfl⟩ := hr
      obtain ⟨vs, h1, h2⟩ := live_ink hR hi h o
      refine .vsl (vs := vs.take (len * z)) ?_ (res_list ih (h2.take _) hr) (Nat.le_trans hl hc)
      rcases h1 with h1 | ⟨c, e, f, g1, g2⟩
      · left; rw [h1]; simp
      · exact .inr ⟨c, e, f, g1, (List.take_prefix _ _).trans g2⟩
    | vptr hK hv =>
      simp only [AV.res, Option.map_eq_some_iff] at hr
      obtain ⟨rs, hr, rfl⟩ := hr
      exact .vptr (hK.mono hk) (res_list ih hv hr)
    | vsl hK hv hl =>
      simp only [AV.res, Option.map_eq_some_iff] at hr
      obtain ⟨rs, hr, rfl⟩ := hr
      exact .vsl (hK.mono hk) (res_list ih hv hr) hl
    | func hf hc =>
      simp only [AV.res] at hr
      split at hr <;> try (simp at hr; done)
      rename_i a b ha hb
      simp only [Option.some.injEq] at hr; subst hr
      exact .func (res_list ih hf ha) (res_list ih hc hb)
    | iface h =>
      simp only [AV.res, Option.map_eq_some_iff] at hr
      obtain ⟨rs, hr, rfl⟩ := hr
      exact .iface (ih _ _ _ h hr)
    | agg h =>
      simp only [AV.res, Option.map_eq_some_iff] at hr
      obtain ⟨rs, hr, rfl⟩ := hr
      exact .agg (res_list ih h hr)
    | tuple h =>
      simp only [AV.res, Option.map_eq_some_iff] at hr
      obtain ⟨rs, hr, rfl⟩ := hr
      exact .tuple (res_list ih h hr)
theorem Ghost.res {n m : Nat} {v r : AV} {H : AHeap} (h : v.res H.get m = some r) : Ghost n v H r (AHeap.empty H.next) := fun _ _ _ _ _ hx hv hR => ⟨_, hx.trans (all_ext hR), VRel.res hR _ _ _ _ hv h, all_rel hR⟩
noncomputable def litK (lit : AV) (v : AV) (H : FH) : Bool := match v.res H.abs.get 1000 with
  | some r => r.beq lit
  | none => false
theorem lit_does {P : Program} {G : Nat → Option AV} {ov : Ov} {f : FuncId} {fuel n : Nat} {args : List AV} {lit : AV} (hm : P.follows .mixedOrders = true) (hp : plainFn P = true) (hov : OvGoodK P G ov) (hG : ∀ g a, G g = some a → a.idLt 0 = true)
    (ha : AV.allLt 0 args = true) (hl : lit.idLt 0 = true) (h : fcall ov P G fuel n f args FH.empty (litK lit) = true) (H : AHeap) : Does P G f args H fun r h => r = lit ∧ h = H := by
  obtain ⟨v, H', hd, _, hk⟩ := fcall_sound hm hp hov n f args FH.empty _ h
  rw [FH.abs_empty] at hd
  unfold litK at hk
  split at hk <;> try (simp at hk; done)
  rename_i r hr
  have hk := AV.beq_eq _ _ hk
  subst hk
  have h1 : Does P G f args (AHeap.empty 0) fun x _ => x = r := hd.ghost fun x h ⟨h1, h2⟩ => ⟨r, AHeap.empty H'.abs.next, by subst h1; subst h2; exact Ghost.res hr, rfl⟩
  exact (h1.frame ha hG (fun x _ hx => by rw [hx]; exact hl) H).mono fun x h ⟨⟨_, h2⟩, h3⟩ => ⟨h2, h3⟩
end Go.Abs

namespace Go.Syn
open Go.Lex
set_option linter.unusedVariables false
set_option linter.unusedSimpArgs false
noncomputable def txE (e : Ex) : Bs := @dite _ (∃ t, ∃ w, Tr e w t) (Classical.propDecidable _) (fun h => h.choose) fun _ => []
theorem txE_tr {e : Ex} (h : WfE e) : ∃ w, Tr e w (txE e) := by
  obtain ⟨w, t, ht⟩ := h
  have hx : ∃ t, ∃ w, Tr e w t := ⟨t, w, ht⟩
  unfold txE
  rw [dif_pos hx]
  exact hx.choose_spec
noncomputable def eqB (q : Eqn) : Bs := q.name ++ (61 :: 40 :: (txE q.e ++ [41, 59]))
noncomputable def eqsB : List Eqn → Bs
  | [] => []
  | q :: l => eqB q ++ eqsB l
noncomputable def ndB (n : Nd) : Bs := headT n ++ (eqsB n.eqs ++ (sTel ++ [32]))
noncomputable def ndsB : List Nd → Bs
  | [] => []
  | n :: l => ndB n ++ ndsB l
theorem eqsB_append : ∀ a b : List Eqn, eqsB (a ++ b) = eqsB a ++ eqsB b
  | [], b => rfl
  | q :: a, b => by rw [List.cons_append, eqsB, eqsB, eqsB_append a b, List.append_assoc]
theorem ndsB_append : ∀ a b : List Nd, ndsB (a ++ b) = ndsB a ++ ndsB b
  | [], b => rfl
  | q :: a, b => by rw [List.cons_append, ndsB, ndsB, ndsB_append a b, List.append_assoc]
theorem eqs_cuts {n : Nat} : ∀ (l : List Eqn), (∀ q ∈ l, WfQ q) → ∃ we, Es l we ∧ ∀ {q : Bs} {L : List Wd}, Cuts n q L → Cuts n (eqsB l ++ q) (we ++ L)
  | [], _ => ⟨[], .nil, fun h => h⟩
  | ⟨nm, e, pos⟩ :: l, hw => by
    obtain ⟨h1, h2⟩ := hw ⟨nm, e, pos⟩ (by simp)
    obtain ⟨we, he, ce⟩ := eqs_cuts (n := n) l fun q hq => hw q (by simp [hq])
    obtain ⟨w, ht⟩ := txE_tr h2
    refine ⟨nmW nm :: eqs_ :: ((lp :: (w ++ [rp])) ++ (semi :: we)), .cons h1 (.inr ⟨w, _, ht, rfl⟩) he, fun {q L} h => ?_⟩
    have c := Cuts.ws (w := nmW nm) h1 (by decide : (1 : Nat) ≠ 4) (by decide) (cuts_eq (cuts_lp ((tr_cuts ht).rp (cuts_semi (ce h)))))
    have e1 : eqsB (⟨nm, e, pos⟩ :: l) ++ q = (nmW nm).text ++ 61 :: 40 :: (txE e ++ 41 :: 59 :: (eqsB l ++ q)) := by
      simp [eqsB, eqB, nmW]
    have e2 : nmW nm :: eqs_ :: ((lp :: (w ++ [rp])) ++ (semi :: we)) ++ L = nmW nm :: eqs_ :: lp :: (w ++ (rp :: (semi :: (we ++ L)))) := by simp
    rw [e1, e2]
    exact c
theorem nds_cuts {n : Nat} : ∀ (l : List Nd), (∀ d ∈ l, WfN d) → ∃ w, Ns l w ∧ Cuts n (ndsB l) w
  | [], _ => ⟨[], .nil, Cuts.nil⟩
  | d :: l, hw => by
    obtain ⟨w, h1, c1⟩ := nds_cuts (n := n) l fun q hq => hw q (by simp [hq])
    have hd := hw d (by simp)
    obtain ⟨we, he, ce⟩ := eqs_cuts (n := n) d.eqs hd.eqs
    obtain ⟨f, hf, cf⟩ := head_cuts (n := n) hd false
    refine ⟨f we ++ w, .cons (hf we he) h1, ?_⟩
    have := cf (eqsB d.eqs) (sTel ++ 32 :: ndsB l) we w (by
      have c2 : Cuts n (sTel ++ 32 :: ndsB l) (kw sTel :: w) := Cuts.wb (w := kw sTel) (Wok.kw (by decide)) c1
      simpa using ce c2)
    simpa [ndsB, ndB] using this
theorem brackets_back {t : Bs} {l : List Nd} (h : parse t = .ok l) : (∃ p, parse (ndsB l) = .error (2, p)) ∨ ∃ l', parse (ndsB l) = .ok l' ∧ l'.map Nd.er = l.map Nd.er := by
  obtain ⟨h1, h2⟩ := parse_wf h
  obtain ⟨w, hn, hc⟩ := nds_cuts (n := (ndsB l).length) l h2
  exact parse_back hc hn h1
theorem eqB_len {q : Eqn} (h : WfQ q) : (eqB q).length ≤ 64 + 64 * q.e.wt := by
  obtain ⟨h1, h2⟩ := h
  obtain ⟨w, ht⟩ := txE_tr h2
  have := tr_len ht
  have := nm_len h1
  simp only [eqB, List.length_append, List.length_cons, List.length_nil]
  omega
theorem eqsB_len : ∀ {l : List Eqn}, (∀ q ∈ l, WfQ q) → (eqsB l).length ≤ 128 * eqsWt l
  | [], _ => by simp [eqsB]
  | q :: l, h => by
    have h1 := eqB_len (h q (by simp))
    have h2 := eqsB_len (l := l) fun x hx => h x (by simp [hx])
    have h3 : 1 ≤ q.e.wt := by cases q.e; simp [Ex.wt]
    simp only [eqsB, eqsWt, List.length_append]
    omega
theorem ndB_len {n : Nd} (h : WfN n) : (ndB n).length ≤ 400 * n.wt := by
  have h1 := head_tlen h
  have h2 := eqsB_len h.eqs
  have h3 : sTel.length = 3 := rfl
  simp only [ndB, List.length_append, List.length_cons, List.length_nil, Nd.wt]
  omega
theorem ndsB_len : ∀ {l : List Nd}, (∀ q ∈ l, WfN q) → (ndsB l).length ≤ 400 * ndsWt l
  | [], _ => by simp [ndsB]
  | q :: l, h => by
    have h1 := ndB_len (h q (by simp))
    have h2 := ndsB_len (l := l) fun x hx => h x (by simp [hx])
    simp only [ndsB, ndsWt, List.length_append]
    omega
end Go.Syn

namespace Go.Abs
open Go
theorem VRel.resG {E E2 : Env} {get : Nat → Option AObj} (hk : Knows E E2) (hlv : ∀ i cs p, get i = some (.cells cs) → E.φ i = some p → ∀ o, ∃ vs, InK E2 p.b (p.s + o) vs ∧ VRels E (cs.drop o) vs) : ∀ (n : Nat) (v : AV) (u : Value) (r : AV), VRel E v u → v.res get n = some r → VRel E2 r u
  | 0, v, u, r, _, hr => by simp [AV.res] at hr
  | n + 1, v, u, r, h, hr => by
    have ih := VRel.resG hk hlv n
    cases h with
    | bool b => simp [AV.res] at hr; subst hr; exact .bool b
    | int k m => simp [AV.res] at hr; subst hr; exact .int k m
    | str s => simp [AV.res] at hr; subst hr; exact .str s
    | nilptr => simp [AV.res] at hr; subst hr; exact .nilptr
    | nilsl => simp [AV.res] at hr; subst hr; exact .nilsl
    | nilmap => simp [AV.res] at hr; subst hr; exact .nilmap
    | nilfunc => simp [AV.res] at hr; subst hr; exact .nilfunc
    | niliface => simp [AV.res] at hr; subst hr; exact .niliface
    | map h => simp [AV.res] at hr
    | vsl0 => simp [AV.res, optAll] at hr; subst hr; exact .vsl0
    | @ptr i o p h =>
      simp only [AV.res] at hr
      split at hr <;> try (simp at hr; done)
      rename_i cs hi
      simp only [Option.map_eq_some_iff] at hr
      obtain ⟨rs, hr, rfl⟩ := hr
      obtain ⟨vs, h1, h2⟩ := hlv _ _ _ hi h o
      exact .vptr h1 (res_list ih h2 hr)
    | @sl i o z len cap c' opn p h hl hc ho hn =>
      simp only [AV.res] at hr
      split at hr <;> try (simp at hr; done)
      rename_i cs hi
      simp only [Option.map_eq_some_iff] at hr
      obtain ⟨rs, hr, rfl⟩ := hr
      obtain ⟨vs, h1, h2⟩ := hlv _ _ _ hi h o
      refine .vsl (vs := vs.take (len * z)) ?_ (res_list ih (h2.take _) hr) (Nat.le_trans hl hc)
      rcases h1 with h1 | ⟨c, e, f, g1, g2⟩
      · left; rw [h1]; simp
      · exact .inr ⟨c, e, f, g1, (List.take_prefix _ _).trans g2⟩
    | vptr hK hv =>
      simp only [AV.res, Option.map_eq_some_iff] at hr
      obtain ⟨rs, hr, rfl⟩ := hr
      exact .vptr (hK.mono hk) (res_list ih hv hr)
    | vsl hK hv hl =>
      simp only [AV.res, Option.map_eq_some_iff] at hr
      obtain ⟨rs, hr, rfl⟩ := hr
      exact .vsl (hK.mono hk) (res_list ih hv hr) hl
    | func hf hc =>
      simp only [AV.res] at hr
      split at hr <;> try (simp at hr; done)
      rename_i a b ha hb
      simp only [Option.some.injEq] at hr; subst hr
      exact .func (res_list ih hf ha) (res_list ih hc hb)
    | iface h =>
      simp only [AV.res, Option.map_eq_some_iff] at hr
      obtain ⟨rs, hr, rfl⟩ := hr
      exact .iface (ih _ _ _ h hr)
    | agg h =>
      simp only [AV.res, Option.map_eq_some_iff] at hr
      obtain ⟨rs, hr, rfl⟩ := hr
      exact .agg (res_list ih h hr)
    | tuple h =>
      simp only [AV.res, Option.map_eq_some_iff] at hr
      obtain ⟨rs, hr, rfl⟩ := hr
      exact .tuple (res_list ih h hr)
noncomputable def Env.but (E : Env) (H2 : AHeap) (w : World) : Env := { E with K := fun B => match E.K B with
  | some o => some o
  | none => match E.F B with
    | some _ => none
    | none => by
      classical
      exact if (∃ i x p, H2.get i = some x ∧ E.φ i = some p ∧ p.b = B) then none else w.heap[B]? }
section
variable {E : Env} {H H2 : AHeap} {w : World}
theorem but_K {B : Nat} {o : Obj} (h : E.K B = some o) : (E.but H2 w).K B = some o := by
  show (match E.K B with | some o => some o | none => _) = some o
  rw [h]
theorem but_knows : Knows E (E.but H2 w) := ⟨fun _ _ h => h, fun _ _ h => but_K h⟩
theorem but_ext : Ext E (E.but H2 w) := ⟨fun _ _ h => h, fun _ _ h => but_K h, rfl, rfl, rfl⟩
theorem but_live (hR : Rel E H w) (hs : ∀ i x, H2.get i = some x → H.get i = some x) {i : Nat} {x : AObj} {p : Place} (hx : H2.get i = some x) (hp : E.φ i = some p) : (E.but H2 w).K p.b = none := by
  obtain ⟨q, ob, h1, h2, h3, h4, h5⟩ := hR.live i x (hs i x hx)
  rw [hp] at h1; cases h1
  show (match E.K p.b with | some o => some o | none => _) = none
  rw [h2]
  show (match E.F p.b with | some _ => none | none => _) = none
  rw [h3]
  exact if_pos ⟨i, x, p, hx, hp, rfl⟩
theorem but_new (hR : Rel E H w) (hs : ∀ i x, H2.get i = some x → H.get i = some x) {i : Nat} {x : AObj} {p : Place} (hx : H.get i = some x) (hn : H2.get i = none) (hp : E.φ i = some p) : (E.but H2 w).K p.b = w.heap[p.b]? := by
  obtain ⟨q, ob, h1, h2, h3, h4, h5⟩ := hR.live i x hx
  rw [hp] at h1; cases h1
  show (match E.K p.b with | some o => some o | none => _) = w.heap[p.b]?
  rw [h2]
  show (match E.F p.b with | some _ => none | none => _) = w.heap[p.b]?
  rw [h3]
  refine if_neg ?_
  rintro ⟨j, y, q, hy, hq, e⟩
  have := hR.inj j i y x q p (hs j y hy) hx hq hp e
  subst this
  rw [hn] at hy; simp at hy
theorem but_rel (hR : Rel E H w) (hs : ∀ i x, H2.get i = some x → H.get i = some x) (hn : H2.next = H.next) : Rel (E.but H2 w) H2 w := by
  refine ⟨hR.os, hR.out, fun B o hB => ?_, hR.F, fun B => ?_, fun i p hp => by rw [hn]; exact hR.dom i p hp, fun i x hi => ?_, fun i j x y p q hi hj => hR.inj i j x y p q (hs i x hi) (hs j y hj)⟩
  · have hB : (match E.K B with | some o => some o | none => match E.F B with | some _ => none | none => by classical exact if (∃ i x p, H2.get i = some x ∧ E.φ i = some p ∧ p.b = B) then none else w.heap[B]?) = some o := hB
    split at hB
    · rename_i o' h; cases hB; exact hR.K B o h
    · split at hB
      · simp at hB
      · split at hB
        · simp at hB
        · exact hB
  · cases hF : E.F B with
    | none => exact .inr hF
    | some o =>
      left
      rcases hR.KF B with e | e
      · show (match E.K B with | some o => some o | none => match E.F B with | some _ => none | none => _) = none
        rw [e, hF]
      · rw [hF] at e; simp at e
  · obtain ⟨p, ob, h1, h2, h3, h4, h5⟩ := hR.live i x (hs i x hi)
    exact ⟨p, ob, h1, but_live hR hs hi h1, h3, h4, h5.mono but_knows⟩
theorem but_ink (hR : Rel E H w) (hs : ∀ i x, H2.get i = some x → H.get i = some x) {i : Nat} {cs : List AV} {p : Place} (hi : H.get i = some (.cells cs)) (hn : H2.get i = none) (hp : E.φ i = some p) (o : Nat) :
    ∃ vs, InK (E.but H2 w) p.b (p.s + o) vs ∧ VRels E (cs.drop o) vs := by
  have hK := but_new hR hs hi hn hp
  obtain ⟨q, ob, h1, h2, h3, h4, c, e, fz, vs, rfl, _, h6, h7, _⟩ := hR.live i _ hi
  rw [hp] at h1; cases h1
  refine ⟨vs.drop o, .inr ⟨c, e, fz, hK.trans h4, ?_⟩, h6.drop o⟩
  obtain ⟨t, ht⟩ := h7
  rw [← List.drop_drop, ← ht]
  by_cases ho : o ≤ vs.length
  · rw [List.drop_append_of_le_length ho]; exact List.prefix_append _ _
  · rw [List.drop_of_length_le (by omega)]; exact List.nil_prefix
end
def offGet (g g2 : Nat → Option AObj) (i : Nat) : Option AObj := match g2 i with
  | some _ => none
  | none => g i
theorem Does.asFrozen {P : Program} {G : Nat → Option AV} {f : FuncId} {args rargs : List AV} {H H2 : AHeap} {Q : AV → AHeap → Prop} {n : Nat} (hs : ∀ i x, H2.get i = some x → H.get i = some x) (hn : H2.next = H.next)
    (hr : optAll (args.map (AV.res (offGet H.get H2.get) n)) = some rargs) (h : Does P G f rargs H2 Q) : Does P G f args H Q :=
  ⟨fun E w vs hR hG hv => by
    have hv2 : VRels (E.but H2 w) rargs vs := res_list (VRel.resG but_knows (fun i cs p hi hp o => by
      unfold offGet at hi
      split at hi
      · simp at hi
      · rename_i h2
        exact but_ink hR hs hi h2 hp o) n) hv hr
    refine (h.run (E.but H2 w) w vs (but_rel hR hs hn) (hG.mono but_knows) hv2).mono fun v w' ⟨r, H', E', g, e2, e3, e4⟩ => ?_
    exact ⟨r, H', E', g, but_ext.trans e2, e3, e4⟩⟩
end Go.Abs

namespace Go.Abs
open Go
attribute [simp] awanted ayield acallee aop aallocC alookup afind asame keyed atup amaplen amapput apure aval tput ofConst ofConst1 ofConsts abin aint2 ashift astr2 aeqIn aeqFields aun aconv aslice abounds abound afieldAddr afield aindexAddr aindex aextract alen acap amin amax abuild afill aplaces aagg apart' aread aat acut afirst alenOf abytes aalloc arep aeff aappend acopy aclear ares aresults aresult avals apairs aopt splice Region.isConst undefA isSeq
@[simp] theorem eff_same (H : AHeap) : H.eff .same = H := rfl
@[simp] theorem eff_put (H : AHeap) (i : Nat) (x : AObj) : H.eff (.put i x) = H.set i x := rfl
@[simp] theorem eff_new (H : AHeap) (x : AObj) : H.eff (.new x) = H.push x := rfl
@[simp] theorem eff_move (H : AHeap) (i : Nat) (x : AObj) : H.eff (.move i x) = (H.kill i).push x := rfl
@[simp] theorem scalar_bool (b : Bool) : (AV.bool b).scalar = true := rfl
@[simp] theorem scalar_int (k : IntKind) (n : Int) : (AV.int k n).scalar = true := rfl
@[simp] theorem scalar_str (s : List UInt8) : (AV.str s).scalar = true := rfl
@[simp] theorem scalar_nilptr : AV.nilptr.scalar = true := rfl
@[simp] theorem scalar_ptr (i o : Nat) : (AV.ptr i o).scalar = true := rfl
@[simp] theorem scalar_vptr (c : List AV) : (AV.vptr c).scalar = true := rfl
@[simp] theorem scalar_nilsl : AV.nilsl.scalar = true := rfl
@[simp] theorem scalar_sl (i o z l c : Nat) (b : Bool) : (AV.sl i o z l c b).scalar = true := rfl
@[simp] theorem scalar_vsl (c : List AV) (n : Nat) : (AV.vsl c n).scalar = true := rfl
@[simp] theorem scalar_nilmap : AV.nilmap.scalar = true := rfl
@[simp] theorem scalar_func (f : Fn) (a b : List AV) : (AV.func f a b).scalar = true := rfl
@[simp] theorem scalar_nilfunc : AV.nilfunc.scalar = true := rfl
@[simp] theorem scalar_iface (t : TypeId) (v : AV) : (AV.iface t v).scalar = true := rfl
@[simp] theorem scalar_niliface : AV.niliface.scalar = true := rfl
@[simp] theorem cells_agg (c : List AV) : (AV.agg c).cells = c := rfl
@[simp] theorem cells_bool (b : Bool) : (AV.bool b).cells = [.bool b] := rfl
@[simp] theorem cells_int (k : IntKind) (n : Int) : (AV.int k n).cells = [.int k n] := rfl
@[simp] theorem cells_str (s : List UInt8) : (AV.str s).cells = [.str s] := rfl
@[simp] theorem cells_nilptr : AV.nilptr.cells = [.nilptr] := rfl
@[simp] theorem cells_ptr (i o : Nat) : (AV.ptr i o).cells = [.ptr i o] := rfl
@[simp] theorem cells_vptr (c : List AV) : (AV.vptr c).cells = [.vptr c] := rfl
@[simp] theorem cells_nilsl : AV.nilsl.cells = [.nilsl] := rfl
@[simp] theorem cells_sl (i o z l c : Nat) (b : Bool) : (AV.sl i o z l c b).cells = [.sl i o z l c b] := rfl
@[simp] theorem cells_vsl (c : List AV) (n : Nat) : (AV.vsl c n).cells = [.vsl c n] := rfl
@[simp] theorem cells_nilmap : AV.nilmap.cells = [.nilmap] := rfl
@[simp] theorem cells_func (f : Fn) (a b : List AV) : (AV.func f a b).cells = [.func f a b] := rfl
@[simp] theorem cells_nilfunc : AV.nilfunc.cells = [.nilfunc] := rfl
@[simp] theorem cells_iface (t : TypeId) (v : AV) : (AV.iface t v).cells = [.iface t v] := rfl
@[simp] theorem cells_niliface : AV.niliface.cells = [.niliface] := rfl
@[simp] theorem cells_tuple (v : List AV) : (AV.tuple v).cells = [.tuple v] := rfl
theorem next_lt {H : AHeap} (hw : H.Wf) {i : Nat} {x : AObj} (h : H.get i = some x) : i < H.next := (hw i x h).1
@[simp] theorem push_set (H : AHeap) (x y : AObj) : (H.push x).set H.next y = H.push y := by
  refine AHeap.ext' rfl fun i => ?_
  simp only [AHeap.get_set, AHeap.get_push]
  split <;> rfl
@[simp] theorem set_set (H : AHeap) (i : Nat) (x y : AObj) : (H.set i x).set i y = H.set i y := AHeap.set_set H i x y
@[simp] theorem int_beq (a b : Int) : (a == b) = decide (a = b) := by
  rw [Bool.eq_iff_iff]; simp
end Go.Abs

namespace Go.Proofs
open Go Go.Abs
@[simp] theorem Tryz.asize0 : asize Tryz.prog 0 = some 1 := by kernel_rfl
@[simp] theorem Tryz.info0 : Tryz.prog.info? 0 = some Tryz.t0 := by kernel_rfl
@[simp] theorem Tryz.tsize0 : Tryz.t0.size = 1 := by kernel_rfl
@[simp] theorem Tryz.tbytes0 : Tryz.t0.bytes = 0 := by kernel_rfl
@[simp] theorem Tryz.builder0 : builderTy Tryz.prog 0 = false := by kernel_rfl
@[simp] theorem Tryz.azero0 : azero Tryz.prog 0 = some (.tuple []) := by kernel_rfl
@[simp] theorem Tryz.asize1 : asize Tryz.prog 1 = some 1 := by kernel_rfl
@[simp] theorem Tryz.info1 : Tryz.prog.info? 1 = some Tryz.t1 := by kernel_rfl
@[simp] theorem Tryz.tsize1 : Tryz.t1.size = 1 := by kernel_rfl
@[simp] theorem Tryz.tbytes1 : Tryz.t1.bytes = 8 := by kernel_rfl
@[simp] theorem Tryz.builder1 : builderTy Tryz.prog 1 = false := by kernel_rfl
@[simp] theorem Tryz.azero1 : azero Tryz.prog 1 = some (.nilfunc) := by kernel_rfl
@[simp] theorem Tryz.asize2 : asize Tryz.prog 2 = some 1 := by kernel_rfl
@[simp] theorem Tryz.info2 : Tryz.prog.info? 2 = some Tryz.t2 := by kernel_rfl
@[simp] theorem Tryz.tsize2 : Tryz.t2.size = 1 := by kernel_rfl
@[simp] theorem Tryz.tbytes2 : Tryz.t2.bytes = 8 := by kernel_rfl
@[simp] theorem Tryz.builder2 : builderTy Tryz.prog 2 = false := by kernel_rfl
@[simp] theorem Tryz.azero2 : azero Tryz.prog 2 = some (.int .i64 (0)) := by kernel_rfl
@[simp] theorem Tryz.asize3 : asize Tryz.prog 3 = some 1 := by kernel_rfl
@[simp] theorem Tryz.info3 : Tryz.prog.info? 3 = some Tryz.t3 := by kernel_rfl
@[simp] theorem Tryz.tsize3 : Tryz.t3.size = 1 := by kernel_rfl
@[simp] theorem Tryz.tbytes3 : Tryz.t3.bytes = 8 := by kernel_rfl
@[simp] theorem Tryz.builder3 : builderTy Tryz.prog 3 = false := by kernel_rfl
@[simp] theorem Tryz.azero3 : azero Tryz.prog 3 = some (.int .i64 (0)) := by kernel_rfl
@[simp] theorem Tryz.asize4 : asize Tryz.prog 4 = some 1 := by kernel_rfl
@[simp] theorem Tryz.info4 : Tryz.prog.info? 4 = some Tryz.t4 := by kernel_rfl
@[simp] theorem Tryz.tsize4 : Tryz.t4.size = 1 := by kernel_rfl
@[simp] theorem Tryz.tbytes4 : Tryz.t4.bytes = 1 := by kernel_rfl
@[simp] theorem Tryz.builder4 : builderTy Tryz.prog 4 = false := by kernel_rfl
@[simp] theorem Tryz.azero4 : azero Tryz.prog 4 = some (.bool false) := by kernel_rfl
@[simp] theorem Tryz.asize5 : asize Tryz.prog 5 = some 1 := by kernel_rfl
@[simp] theorem Tryz.info5 : Tryz.prog.info? 5 = some Tryz.t5 := by kernel_rfl
@[simp] theorem Tryz.tsize5 : Tryz.t5.size = 1 := by kernel_rfl
@[simp] theorem Tryz.tbytes5 : Tryz.t5.bytes = 1 := by kernel_rfl
@[simp] theorem Tryz.builder5 : builderTy Tryz.prog 5 = false := by kernel_rfl
@[simp] theorem Tryz.azero5 : azero Tryz.prog 5 = some (.int .u8 (0)) := by kernel_rfl
@[simp] theorem Tryz.asize6 : asize Tryz.prog 6 = some 1 := by kernel_rfl
@[simp] theorem Tryz.info6 : Tryz.prog.info? 6 = some Tryz.t6 := by kernel_rfl
@[simp] theorem Tryz.tsize6 : Tryz.t6.size = 1 := by kernel_rfl
@[simp] theorem Tryz.tbytes6 : Tryz.t6.bytes = 1 := by kernel_rfl
@[simp] theorem Tryz.builder6 : builderTy Tryz.prog 6 = false := by kernel_rfl
@[simp] theorem Tryz.azero6 : azero Tryz.prog 6 = some (.int .u8 (0)) := by kernel_rfl
@[simp] theorem Tryz.asize7 : asize Tryz.prog 7 = some 4 := by kernel_rfl
@[simp] theorem Tryz.info7 : Tryz.prog.info? 7 = some Tryz.t7 := by kernel_rfl
@[simp] theorem Tryz.tsize7 : Tryz.t7.size = 4 := by kernel_rfl
@[simp] theorem Tryz.tbytes7 : Tryz.t7.bytes = 24 := by kernel_rfl
@[simp] theorem Tryz.builder7 : builderTy Tryz.prog 7 = false := by kernel_rfl
@[simp] theorem Tryz.azero7 : azero Tryz.prog 7 = some (.agg [.int .i64 (0), .int .i64 (0), .bool false, .int .u8 (0)]) := by kernel_rfl
@[simp] theorem Tryz.asize8 : asize Tryz.prog 8 = some 4 := by kernel_rfl
@[simp] theorem Tryz.info8 : Tryz.prog.info? 8 = some Tryz.t8 := by kernel_rfl
@[simp] theorem Tryz.tsize8 : Tryz.t8.size = 4 := by kernel_rfl
@[simp] theorem Tryz.tbytes8 : Tryz.t8.bytes = 24 := by kernel_rfl
@[simp] theorem Tryz.builder8 : builderTy Tryz.prog 8 = false := by kernel_rfl
@[simp] theorem Tryz.azero8 : azero Tryz.prog 8 = some (.agg [.int .i64 (0), .int .i64 (0), .bool false, .int .u8 (0)]) := by kernel_rfl
@[simp] theorem Tryz.asize9 : asize Tryz.prog 9 = some 1 := by kernel_rfl
@[simp] theorem Tryz.info9 : Tryz.prog.info? 9 = some Tryz.t9 := by kernel_rfl
@[simp] theorem Tryz.tsize9 : Tryz.t9.size = 1 := by kernel_rfl
@[simp] theorem Tryz.tbytes9 : Tryz.t9.bytes = 16 := by kernel_rfl
@[simp] theorem Tryz.builder9 : builderTy Tryz.prog 9 = false := by kernel_rfl
@[simp] theorem Tryz.azero9 : azero Tryz.prog 9 = some (.str []) := by kernel_rfl
@[simp] theorem Tryz.asize10 : asize Tryz.prog 10 = some 1 := by kernel_rfl
@[simp] theorem Tryz.info10 : Tryz.prog.info? 10 = some Tryz.t10 := by kernel_rfl
@[simp] theorem Tryz.tsize10 : Tryz.t10.size = 1 := by kernel_rfl
@[simp] theorem Tryz.tbytes10 : Tryz.t10.bytes = 16 := by kernel_rfl
@[simp] theorem Tryz.builder10 : builderTy Tryz.prog 10 = false := by kernel_rfl
@[simp] theorem Tryz.azero10 : azero Tryz.prog 10 = some (.str []) := by kernel_rfl
@[simp] theorem Tryz.asize11 : asize Tryz.prog 11 = some 1 := by kernel_rfl
@[simp] theorem Tryz.info11 : Tryz.prog.info? 11 = some Tryz.t11 := by kernel_rfl
@[simp] theorem Tryz.tsize11 : Tryz.t11.size = 1 := by kernel_rfl
@[simp] theorem Tryz.tbytes11 : Tryz.t11.bytes = 16 := by kernel_rfl
@[simp] theorem Tryz.builder11 : builderTy Tryz.prog 11 = false := by kernel_rfl
@[simp] theorem Tryz.azero11 : azero Tryz.prog 11 = some (.str []) := by kernel_rfl
@[simp] theorem Tryz.asize12 : asize Tryz.prog 12 = some 1 := by kernel_rfl
@[simp] theorem Tryz.info12 : Tryz.prog.info? 12 = some Tryz.t12 := by kernel_rfl
@[simp] theorem Tryz.tsize12 : Tryz.t12.size = 1 := by kernel_rfl
@[simp] theorem Tryz.tbytes12 : Tryz.t12.bytes = 8 := by kernel_rfl
@[simp] theorem Tryz.builder12 : builderTy Tryz.prog 12 = false := by kernel_rfl
@[simp] theorem Tryz.azero12 : azero Tryz.prog 12 = some (.int .u64 (0)) := by kernel_rfl
@[simp] theorem Tryz.asize13 : asize Tryz.prog 13 = some 2 := by kernel_rfl
@[simp] theorem Tryz.info13 : Tryz.prog.info? 13 = some Tryz.t13 := by kernel_rfl
@[simp] theorem Tryz.tsize13 : Tryz.t13.size = 2 := by kernel_rfl
@[simp] theorem Tryz.tbytes13 : Tryz.t13.bytes = 24 := by kernel_rfl
@[simp] theorem Tryz.builder13 : builderTy Tryz.prog 13 = false := by kernel_rfl
@[simp] theorem Tryz.azero13 : azero Tryz.prog 13 = some (.agg [.str [], .int .u64 (0)]) := by kernel_rfl
@[simp] theorem Tryz.asize14 : asize Tryz.prog 14 = some 2 := by kernel_rfl
@[simp] theorem Tryz.info14 : Tryz.prog.info? 14 = some Tryz.t14 := by kernel_rfl
@[simp] theorem Tryz.tsize14 : Tryz.t14.size = 2 := by kernel_rfl
@[simp] theorem Tryz.tbytes14 : Tryz.t14.bytes = 24 := by kernel_rfl
@[simp] theorem Tryz.builder14 : builderTy Tryz.prog 14 = false := by kernel_rfl
@[simp] theorem Tryz.azero14 : azero Tryz.prog 14 = some (.agg [.str [], .int .u64 (0)]) := by kernel_rfl
@[simp] theorem Tryz.asize15 : asize Tryz.prog 15 = some 1 := by kernel_rfl
@[simp] theorem Tryz.info15 : Tryz.prog.info? 15 = some Tryz.t15 := by kernel_rfl
@[simp] theorem Tryz.tsize15 : Tryz.t15.size = 1 := by kernel_rfl
@[simp] theorem Tryz.tbytes15 : Tryz.t15.bytes = 8 := by kernel_rfl
@[simp] theorem Tryz.builder15 : builderTy Tryz.prog 15 = false := by kernel_rfl
@[simp] theorem Tryz.azero15 : azero Tryz.prog 15 = some (.nilptr) := by kernel_rfl
@[simp] theorem Tryz.asize16 : asize Tryz.prog 16 = some 1 := by kernel_rfl
@[simp] theorem Tryz.info16 : Tryz.prog.info? 16 = some Tryz.t16 := by kernel_rfl
@[simp] theorem Tryz.tsize16 : Tryz.t16.size = 1 := by kernel_rfl
@[simp] theorem Tryz.tbytes16 : Tryz.t16.bytes = 8 := by kernel_rfl
@[simp] theorem Tryz.builder16 : builderTy Tryz.prog 16 = false := by kernel_rfl
@[simp] theorem Tryz.azero16 : azero Tryz.prog 16 = some (.nilptr) := by kernel_rfl
@[simp] theorem Tryz.asize17 : asize Tryz.prog 17 = some 1 := by kernel_rfl
@[simp] theorem Tryz.info17 : Tryz.prog.info? 17 = some Tryz.t17 := by kernel_rfl
@[simp] theorem Tryz.tsize17 : Tryz.t17.size = 1 := by kernel_rfl
@[simp] theorem Tryz.tbytes17 : Tryz.t17.bytes = 8 := by kernel_rfl
@[simp] theorem Tryz.builder17 : builderTy Tryz.prog 17 = false := by kernel_rfl
@[simp] theorem Tryz.azero17 : azero Tryz.prog 17 = some (.nilptr) := by kernel_rfl
@[simp] theorem Tryz.asize18 : asize Tryz.prog 18 = some 1 := by kernel_rfl
@[simp] theorem Tryz.info18 : Tryz.prog.info? 18 = some Tryz.t18 := by kernel_rfl
@[simp] theorem Tryz.tsize18 : Tryz.t18.size = 1 := by kernel_rfl
@[simp] theorem Tryz.tbytes18 : Tryz.t18.bytes = 8 := by kernel_rfl
@[simp] theorem Tryz.builder18 : builderTy Tryz.prog 18 = false := by kernel_rfl
@[simp] theorem Tryz.azero18 : azero Tryz.prog 18 = some (.agg [.nilptr]) := by kernel_rfl
@[simp] theorem Tryz.asize19 : asize Tryz.prog 19 = some 1 := by kernel_rfl
@[simp] theorem Tryz.info19 : Tryz.prog.info? 19 = some Tryz.t19 := by kernel_rfl
@[simp] theorem Tryz.tsize19 : Tryz.t19.size = 1 := by kernel_rfl
@[simp] theorem Tryz.tbytes19 : Tryz.t19.bytes = 8 := by kernel_rfl
@[simp] theorem Tryz.builder19 : builderTy Tryz.prog 19 = false := by kernel_rfl
@[simp] theorem Tryz.azero19 : azero Tryz.prog 19 = some (.agg [.nilptr]) := by kernel_rfl
@[simp] theorem Tryz.asize20 : asize Tryz.prog 20 = some 1 := by kernel_rfl
@[simp] theorem Tryz.info20 : Tryz.prog.info? 20 = some Tryz.t20 := by kernel_rfl
@[simp] theorem Tryz.tsize20 : Tryz.t20.size = 1 := by kernel_rfl
@[simp] theorem Tryz.tbytes20 : Tryz.t20.bytes = 16 := by kernel_rfl
@[simp] theorem Tryz.builder20 : builderTy Tryz.prog 20 = false := by kernel_rfl
@[simp] theorem Tryz.azero20 : azero Tryz.prog 20 = some (.niliface) := by kernel_rfl
@[simp] theorem Tryz.asize21 : asize Tryz.prog 21 = some 1 := by kernel_rfl
@[simp] theorem Tryz.info21 : Tryz.prog.info? 21 = some Tryz.t21 := by kernel_rfl
@[simp] theorem Tryz.tsize21 : Tryz.t21.size = 1 := by kernel_rfl
@[simp] theorem Tryz.tbytes21 : Tryz.t21.bytes = 4 := by kernel_rfl
@[simp] theorem Tryz.builder21 : builderTy Tryz.prog 21 = false := by kernel_rfl
@[simp] theorem Tryz.azero21 : azero Tryz.prog 21 = some (.int .i32 (0)) := by kernel_rfl
@[simp] theorem Tryz.asize22 : asize Tryz.prog 22 = some 1 := by kernel_rfl
@[simp] theorem Tryz.info22 : Tryz.prog.info? 22 = some Tryz.t22 := by kernel_rfl
@[simp] theorem Tryz.tsize22 : Tryz.t22.size = 1 := by kernel_rfl
@[simp] theorem Tryz.tbytes22 : Tryz.t22.bytes = 8 := by kernel_rfl
@[simp] theorem Tryz.builder22 : builderTy Tryz.prog 22 = false := by kernel_rfl
@[simp] theorem Tryz.azero22 : azero Tryz.prog 22 = some (.nilfunc) := by kernel_rfl
@[simp] theorem Tryz.asize23 : asize Tryz.prog 23 = some 1 := by kernel_rfl
@[simp] theorem Tryz.info23 : Tryz.prog.info? 23 = some Tryz.t23 := by kernel_rfl
@[simp] theorem Tryz.tsize23 : Tryz.t23.size = 1 := by kernel_rfl
@[simp] theorem Tryz.tbytes23 : Tryz.t23.bytes = 24 := by kernel_rfl
@[simp] theorem Tryz.builder23 : builderTy Tryz.prog 23 = false := by kernel_rfl
@[simp] theorem Tryz.azero23 : azero Tryz.prog 23 = some (.nilsl) := by kernel_rfl
@[simp] theorem Tryz.asize24 : asize Tryz.prog 24 = some 1 := by kernel_rfl
@[simp] theorem Tryz.info24 : Tryz.prog.info? 24 = some Tryz.t24 := by kernel_rfl
@[simp] theorem Tryz.tsize24 : Tryz.t24.size = 1 := by kernel_rfl
@[simp] theorem Tryz.tbytes24 : Tryz.t24.bytes = 8 := by kernel_rfl
@[simp] theorem Tryz.builder24 : builderTy Tryz.prog 24 = false := by kernel_rfl
@[simp] theorem Tryz.azero24 : azero Tryz.prog 24 = some (.int .i64 (0)) := by kernel_rfl
@[simp] theorem Tryz.asize25 : asize Tryz.prog 25 = some 2 := by kernel_rfl
@[simp] theorem Tryz.info25 : Tryz.prog.info? 25 = some Tryz.t25 := by kernel_rfl
@[simp] theorem Tryz.tsize25 : Tryz.t25.size = 2 := by kernel_rfl
@[simp] theorem Tryz.tbytes25 : Tryz.t25.bytes = 16 := by kernel_rfl
@[simp] theorem Tryz.builder25 : builderTy Tryz.prog 25 = false := by kernel_rfl
@[simp] theorem Tryz.azero25 : azero Tryz.prog 25 = some (.agg [.int .i64 (0), .int .i64 (0)]) := by kernel_rfl
@[simp] theorem Tryz.asize26 : asize Tryz.prog 26 = some 2 := by kernel_rfl
@[simp] theorem Tryz.info26 : Tryz.prog.info? 26 = some Tryz.t26 := by kernel_rfl
@[simp] theorem Tryz.tsize26 : Tryz.t26.size = 2 := by kernel_rfl
@[simp] theorem Tryz.tbytes26 : Tryz.t26.bytes = 16 := by kernel_rfl
@[simp] theorem Tryz.builder26 : builderTy Tryz.prog 26 = false := by kernel_rfl
@[simp] theorem Tryz.azero26 : azero Tryz.prog 26 = some (.agg [.int .i64 (0), .int .i64 (0)]) := by kernel_rfl
@[simp] theorem Tryz.asize27 : asize Tryz.prog 27 = some 1 := by kernel_rfl
@[simp] theorem Tryz.info27 : Tryz.prog.info? 27 = some Tryz.t27 := by kernel_rfl
@[simp] theorem Tryz.tsize27 : Tryz.t27.size = 1 := by kernel_rfl
@[simp] theorem Tryz.tbytes27 : Tryz.t27.bytes = 0 := by kernel_rfl
@[simp] theorem Tryz.builder27 : builderTy Tryz.prog 27 = false := by kernel_rfl
@[simp] theorem Tryz.asize28 : asize Tryz.prog 28 = some 1 := by kernel_rfl
@[simp] theorem Tryz.info28 : Tryz.prog.info? 28 = some Tryz.t28 := by kernel_rfl
@[simp] theorem Tryz.tsize28 : Tryz.t28.size = 1 := by kernel_rfl
@[simp] theorem Tryz.tbytes28 : Tryz.t28.bytes = 8 := by kernel_rfl
@[simp] theorem Tryz.builder28 : builderTy Tryz.prog 28 = false := by kernel_rfl
@[simp] theorem Tryz.azero28 : azero Tryz.prog 28 = some (.nilfunc) := by kernel_rfl
@[simp] theorem Tryz.asize30 : asize Tryz.prog 30 = some 1 := by kernel_rfl
@[simp] theorem Tryz.info30 : Tryz.prog.info? 30 = some Tryz.t30 := by kernel_rfl
@[simp] theorem Tryz.tsize30 : Tryz.t30.size = 1 := by kernel_rfl
@[simp] theorem Tryz.tbytes30 : Tryz.t30.bytes = 8 := by kernel_rfl
@[simp] theorem Tryz.builder30 : builderTy Tryz.prog 30 = false := by kernel_rfl
@[simp] theorem Tryz.azero30 : azero Tryz.prog 30 = some (.nilfunc) := by kernel_rfl
@[simp] theorem Tryz.asize31 : asize Tryz.prog 31 = some 1 := by kernel_rfl
@[simp] theorem Tryz.info31 : Tryz.prog.info? 31 = some Tryz.t31 := by kernel_rfl
@[simp] theorem Tryz.tsize31 : Tryz.t31.size = 1 := by kernel_rfl
@[simp] theorem Tryz.tbytes31 : Tryz.t31.bytes = 8 := by kernel_rfl
@[simp] theorem Tryz.builder31 : builderTy Tryz.prog 31 = false := by kernel_rfl
@[simp] theorem Tryz.azero31 : azero Tryz.prog 31 = some (.nilfunc) := by kernel_rfl
@[simp] theorem Tryz.asize32 : asize Tryz.prog 32 = some 1 := by kernel_rfl
@[simp] theorem Tryz.info32 : Tryz.prog.info? 32 = some Tryz.t32 := by kernel_rfl
@[simp] theorem Tryz.tsize32 : Tryz.t32.size = 1 := by kernel_rfl
@[simp] theorem Tryz.tbytes32 : Tryz.t32.bytes = 8 := by kernel_rfl
@[simp] theorem Tryz.builder32 : builderTy Tryz.prog 32 = false := by kernel_rfl
@[simp] theorem Tryz.azero32 : azero Tryz.prog 32 = some (.nilfunc) := by kernel_rfl
@[simp] theorem Tryz.asize33 : asize Tryz.prog 33 = some 1 := by kernel_rfl
@[simp] theorem Tryz.info33 : Tryz.prog.info? 33 = some Tryz.t33 := by kernel_rfl
@[simp] theorem Tryz.tsize33 : Tryz.t33.size = 1 := by kernel_rfl
@[simp] theorem Tryz.tbytes33 : Tryz.t33.bytes = 24 := by kernel_rfl
@[simp] theorem Tryz.builder33 : builderTy Tryz.prog 33 = false := by kernel_rfl
@[simp] theorem Tryz.azero33 : azero Tryz.prog 33 = some (.nilsl) := by kernel_rfl
@[simp] theorem Tryz.asize34 : asize Tryz.prog 34 = some 1 := by kernel_rfl
@[simp] theorem Tryz.info34 : Tryz.prog.info? 34 = some Tryz.t34 := by kernel_rfl
@[simp] theorem Tryz.tsize34 : Tryz.t34.size = 1 := by kernel_rfl
@[simp] theorem Tryz.tbytes34 : Tryz.t34.bytes = 24 := by kernel_rfl
@[simp] theorem Tryz.builder34 : builderTy Tryz.prog 34 = false := by kernel_rfl
@[simp] theorem Tryz.azero34 : azero Tryz.prog 34 = some (.nilsl) := by kernel_rfl
@[simp] theorem Tryz.asize35 : asize Tryz.prog 35 = some 6 := by kernel_rfl
@[simp] theorem Tryz.info35 : Tryz.prog.info? 35 = some Tryz.t35 := by kernel_rfl
@[simp] theorem Tryz.tsize35 : Tryz.t35.size = 6 := by kernel_rfl
@[simp] theorem Tryz.tbytes35 : Tryz.t35.bytes = 120 := by kernel_rfl
@[simp] theorem Tryz.builder35 : builderTy Tryz.prog 35 = false := by kernel_rfl
@[simp] theorem Tryz.azero35 : azero Tryz.prog 35 = some (.agg [.str [], .nilsl, .nilsl, .nilsl, .nilsl, .int .i64 (0)]) := by kernel_rfl
@[simp] theorem Tryz.asize36 : asize Tryz.prog 36 = some 6 := by kernel_rfl
@[simp] theorem Tryz.info36 : Tryz.prog.info? 36 = some Tryz.t36 := by kernel_rfl
@[simp] theorem Tryz.tsize36 : Tryz.t36.size = 6 := by kernel_rfl
@[simp] theorem Tryz.tbytes36 : Tryz.t36.bytes = 120 := by kernel_rfl
@[simp] theorem Tryz.builder36 : builderTy Tryz.prog 36 = false := by kernel_rfl
@[simp] theorem Tryz.azero36 : azero Tryz.prog 36 = some (.agg [.str [], .nilsl, .nilsl, .nilsl, .nilsl, .int .i64 (0)]) := by kernel_rfl
@[simp] theorem Tryz.asize38 : asize Tryz.prog 38 = some 1 := by kernel_rfl
@[simp] theorem Tryz.info38 : Tryz.prog.info? 38 = some Tryz.t38 := by kernel_rfl
@[simp] theorem Tryz.tsize38 : Tryz.t38.size = 1 := by kernel_rfl
@[simp] theorem Tryz.tbytes38 : Tryz.t38.bytes = 24 := by kernel_rfl
@[simp] theorem Tryz.builder38 : builderTy Tryz.prog 38 = false := by kernel_rfl
@[simp] theorem Tryz.azero38 : azero Tryz.prog 38 = some (.nilsl) := by kernel_rfl
@[simp] theorem Tryz.asize39 : asize Tryz.prog 39 = some 1 := by kernel_rfl
@[simp] theorem Tryz.info39 : Tryz.prog.info? 39 = some Tryz.t39 := by kernel_rfl
@[simp] theorem Tryz.tsize39 : Tryz.t39.size = 1 := by kernel_rfl
@[simp] theorem Tryz.tbytes39 : Tryz.t39.bytes = 24 := by kernel_rfl
@[simp] theorem Tryz.builder39 : builderTy Tryz.prog 39 = false := by kernel_rfl
@[simp] theorem Tryz.azero39 : azero Tryz.prog 39 = some (.nilsl) := by kernel_rfl
@[simp] theorem Tryz.asize40 : asize Tryz.prog 40 = some 6 := by kernel_rfl
@[simp] theorem Tryz.info40 : Tryz.prog.info? 40 = some Tryz.t40 := by kernel_rfl
@[simp] theorem Tryz.tsize40 : Tryz.t40.size = 6 := by kernel_rfl
@[simp] theorem Tryz.tbytes40 : Tryz.t40.bytes = 120 := by kernel_rfl
@[simp] theorem Tryz.builder40 : builderTy Tryz.prog 40 = false := by kernel_rfl
@[simp] theorem Tryz.azero40 : azero Tryz.prog 40 = some (.agg [.str [], .nilsl, .nilsl, .nilsl, .nilsl, .int .i64 (0)]) := by kernel_rfl
@[simp] theorem Tryz.asize41 : asize Tryz.prog 41 = some 6 := by kernel_rfl
@[simp] theorem Tryz.info41 : Tryz.prog.info? 41 = some Tryz.t41 := by kernel_rfl
@[simp] theorem Tryz.tsize41 : Tryz.t41.size = 6 := by kernel_rfl
@[simp] theorem Tryz.tbytes41 : Tryz.t41.bytes = 120 := by kernel_rfl
@[simp] theorem Tryz.builder41 : builderTy Tryz.prog 41 = false := by kernel_rfl
@[simp] theorem Tryz.azero41 : azero Tryz.prog 41 = some (.agg [.str [], .nilsl, .nilsl, .nilsl, .nilsl, .int .i64 (0)]) := by kernel_rfl
@[simp] theorem Tryz.asize43 : asize Tryz.prog 43 = some 1 := by kernel_rfl
@[simp] theorem Tryz.info43 : Tryz.prog.info? 43 = some Tryz.t43 := by kernel_rfl
@[simp] theorem Tryz.tsize43 : Tryz.t43.size = 1 := by kernel_rfl
@[simp] theorem Tryz.tbytes43 : Tryz.t43.bytes = 24 := by kernel_rfl
@[simp] theorem Tryz.builder43 : builderTy Tryz.prog 43 = false := by kernel_rfl
@[simp] theorem Tryz.azero43 : azero Tryz.prog 43 = some (.nilsl) := by kernel_rfl
@[simp] theorem Tryz.asize44 : asize Tryz.prog 44 = some 1 := by kernel_rfl
@[simp] theorem Tryz.info44 : Tryz.prog.info? 44 = some Tryz.t44 := by kernel_rfl
@[simp] theorem Tryz.tsize44 : Tryz.t44.size = 1 := by kernel_rfl
@[simp] theorem Tryz.tbytes44 : Tryz.t44.bytes = 24 := by kernel_rfl
@[simp] theorem Tryz.builder44 : builderTy Tryz.prog 44 = false := by kernel_rfl
@[simp] theorem Tryz.azero44 : azero Tryz.prog 44 = some (.nilsl) := by kernel_rfl
@[simp] theorem Tryz.asize45 : asize Tryz.prog 45 = some 5 := by kernel_rfl
@[simp] theorem Tryz.info45 : Tryz.prog.info? 45 = some Tryz.t45 := by kernel_rfl
@[simp] theorem Tryz.tsize45 : Tryz.t45.size = 5 := by kernel_rfl
@[simp] theorem Tryz.tbytes45 : Tryz.t45.bytes = 72 := by kernel_rfl
@[simp] theorem Tryz.builder45 : builderTy Tryz.prog 45 = false := by kernel_rfl
@[simp] theorem Tryz.azero45 : azero Tryz.prog 45 = some (.agg [.str [], .str [], .int .i64 (0), .int .i64 (0), .nilsl]) := by kernel_rfl
@[simp] theorem Tryz.asize46 : asize Tryz.prog 46 = some 5 := by kernel_rfl
@[simp] theorem Tryz.info46 : Tryz.prog.info? 46 = some Tryz.t46 := by kernel_rfl
@[simp] theorem Tryz.tsize46 : Tryz.t46.size = 5 := by kernel_rfl
@[simp] theorem Tryz.tbytes46 : Tryz.t46.bytes = 72 := by kernel_rfl
@[simp] theorem Tryz.builder46 : builderTy Tryz.prog 46 = false := by kernel_rfl
@[simp] theorem Tryz.azero46 : azero Tryz.prog 46 = some (.agg [.str [], .str [], .int .i64 (0), .int .i64 (0), .nilsl]) := by kernel_rfl
@[simp] theorem Tryz.asize47 : asize Tryz.prog 47 = some 7 := by kernel_rfl
@[simp] theorem Tryz.info47 : Tryz.prog.info? 47 = some Tryz.t47 := by kernel_rfl
@[simp] theorem Tryz.tsize47 : Tryz.t47.size = 7 := by kernel_rfl
@[simp] theorem Tryz.tbytes47 : Tryz.t47.bytes = 96 := by kernel_rfl
@[simp] theorem Tryz.builder47 : builderTy Tryz.prog 47 = false := by kernel_rfl
@[simp] theorem Tryz.azero47 : azero Tryz.prog 47 = some (.agg [.str [], .str [], .str [], .int .i64 (0), .int .i64 (0), .nilsl, .int .i64 (0)]) := by kernel_rfl
@[simp] theorem Tryz.asize48 : asize Tryz.prog 48 = some 7 := by kernel_rfl
@[simp] theorem Tryz.info48 : Tryz.prog.info? 48 = some Tryz.t48 := by kernel_rfl
@[simp] theorem Tryz.tsize48 : Tryz.t48.size = 7 := by kernel_rfl
@[simp] theorem Tryz.tbytes48 : Tryz.t48.bytes = 96 := by kernel_rfl
@[simp] theorem Tryz.builder48 : builderTy Tryz.prog 48 = false := by kernel_rfl
@[simp] theorem Tryz.azero48 : azero Tryz.prog 48 = some (.agg [.str [], .str [], .str [], .int .i64 (0), .int .i64 (0), .nilsl, .int .i64 (0)]) := by kernel_rfl
@[simp] theorem Tryz.asize50 : asize Tryz.prog 50 = some 1 := by kernel_rfl
@[simp] theorem Tryz.info50 : Tryz.prog.info? 50 = some Tryz.t50 := by kernel_rfl
@[simp] theorem Tryz.tsize50 : Tryz.t50.size = 1 := by kernel_rfl
@[simp] theorem Tryz.tbytes50 : Tryz.t50.bytes = 24 := by kernel_rfl
@[simp] theorem Tryz.builder50 : builderTy Tryz.prog 50 = false := by kernel_rfl
@[simp] theorem Tryz.azero50 : azero Tryz.prog 50 = some (.nilsl) := by kernel_rfl
@[simp] theorem Tryz.asize53 : asize Tryz.prog 53 = some 1 := by kernel_rfl
@[simp] theorem Tryz.info53 : Tryz.prog.info? 53 = some Tryz.t53 := by kernel_rfl
@[simp] theorem Tryz.tsize53 : Tryz.t53.size = 1 := by kernel_rfl
@[simp] theorem Tryz.tbytes53 : Tryz.t53.bytes = 24 := by kernel_rfl
@[simp] theorem Tryz.builder53 : builderTy Tryz.prog 53 = false := by kernel_rfl
@[simp] theorem Tryz.azero53 : azero Tryz.prog 53 = some (.nilsl) := by kernel_rfl
@[simp] theorem Tryz.asize54 : asize Tryz.prog 54 = some 1 := by kernel_rfl
@[simp] theorem Tryz.info54 : Tryz.prog.info? 54 = some Tryz.t54 := by kernel_rfl
@[simp] theorem Tryz.tsize54 : Tryz.t54.size = 1 := by kernel_rfl
@[simp] theorem Tryz.tbytes54 : Tryz.t54.bytes = 24 := by kernel_rfl
@[simp] theorem Tryz.builder54 : builderTy Tryz.prog 54 = false := by kernel_rfl
@[simp] theorem Tryz.azero54 : azero Tryz.prog 54 = some (.nilsl) := by kernel_rfl
@[simp] theorem Tryz.asize55 : asize Tryz.prog 55 = some 1 := by kernel_rfl
@[simp] theorem Tryz.info55 : Tryz.prog.info? 55 = some Tryz.t55 := by kernel_rfl
@[simp] theorem Tryz.tsize55 : Tryz.t55.size = 1 := by kernel_rfl
@[simp] theorem Tryz.tbytes55 : Tryz.t55.bytes = 24 := by kernel_rfl
@[simp] theorem Tryz.builder55 : builderTy Tryz.prog 55 = false := by kernel_rfl
@[simp] theorem Tryz.azero55 : azero Tryz.prog 55 = some (.nilsl) := by kernel_rfl
@[simp] theorem Tryz.asize56 : asize Tryz.prog 56 = some 6 := by kernel_rfl
@[simp] theorem Tryz.info56 : Tryz.prog.info? 56 = some Tryz.t56 := by kernel_rfl
@[simp] theorem Tryz.tsize56 : Tryz.t56.size = 6 := by kernel_rfl
@[simp] theorem Tryz.tbytes56 : Tryz.t56.bytes = 144 := by kernel_rfl
@[simp] theorem Tryz.builder56 : builderTy Tryz.prog 56 = false := by kernel_rfl
@[simp] theorem Tryz.azero56 : azero Tryz.prog 56 = some (.agg [.nilsl, .nilsl, .nilsl, .nilsl, .nilsl, .nilsl]) := by kernel_rfl
@[simp] theorem Tryz.asize57 : asize Tryz.prog 57 = some 6 := by kernel_rfl
@[simp] theorem Tryz.info57 : Tryz.prog.info? 57 = some Tryz.t57 := by kernel_rfl
@[simp] theorem Tryz.tsize57 : Tryz.t57.size = 6 := by kernel_rfl
@[simp] theorem Tryz.tbytes57 : Tryz.t57.bytes = 144 := by kernel_rfl
@[simp] theorem Tryz.builder57 : builderTy Tryz.prog 57 = false := by kernel_rfl
@[simp] theorem Tryz.azero57 : azero Tryz.prog 57 = some (.agg [.nilsl, .nilsl, .nilsl, .nilsl, .nilsl, .nilsl]) := by kernel_rfl
@[simp] theorem Tryz.asize60 : asize Tryz.prog 60 = some 1 := by kernel_rfl
@[simp] theorem Tryz.info60 : Tryz.prog.info? 60 = some Tryz.t60 := by kernel_rfl
@[simp] theorem Tryz.tsize60 : Tryz.t60.size = 1 := by kernel_rfl
@[simp] theorem Tryz.tbytes60 : Tryz.t60.bytes = 0 := by kernel_rfl
@[simp] theorem Tryz.builder60 : builderTy Tryz.prog 60 = false := by kernel_rfl
@[simp] theorem Tryz.asize64 : asize Tryz.prog 64 = some 1 := by kernel_rfl
@[simp] theorem Tryz.info64 : Tryz.prog.info? 64 = some Tryz.t64 := by kernel_rfl
@[simp] theorem Tryz.tsize64 : Tryz.t64.size = 1 := by kernel_rfl
@[simp] theorem Tryz.tbytes64 : Tryz.t64.bytes = 24 := by kernel_rfl
@[simp] theorem Tryz.builder64 : builderTy Tryz.prog 64 = false := by kernel_rfl
@[simp] theorem Tryz.azero64 : azero Tryz.prog 64 = some (.nilsl) := by kernel_rfl
@[simp] theorem Tryz.asize65 : asize Tryz.prog 65 = some 5 := by kernel_rfl
@[simp] theorem Tryz.info65 : Tryz.prog.info? 65 = some Tryz.t65 := by kernel_rfl
@[simp] theorem Tryz.tsize65 : Tryz.t65.size = 5 := by kernel_rfl
@[simp] theorem Tryz.tbytes65 : Tryz.t65.bytes = 72 := by kernel_rfl
@[simp] theorem Tryz.builder65 : builderTy Tryz.prog 65 = false := by kernel_rfl
@[simp] theorem Tryz.azero65 : azero Tryz.prog 65 = some (.agg [.str [], .str [], .int .i64 (0), .int .i64 (0), .nilsl]) := by kernel_rfl
@[simp] theorem Tryz.asize66 : asize Tryz.prog 66 = some 5 := by kernel_rfl
@[simp] theorem Tryz.info66 : Tryz.prog.info? 66 = some Tryz.t66 := by kernel_rfl
@[simp] theorem Tryz.tsize66 : Tryz.t66.size = 5 := by kernel_rfl
@[simp] theorem Tryz.tbytes66 : Tryz.t66.bytes = 72 := by kernel_rfl
@[simp] theorem Tryz.builder66 : builderTy Tryz.prog 66 = false := by kernel_rfl
@[simp] theorem Tryz.azero66 : azero Tryz.prog 66 = some (.agg [.str [], .str [], .int .i64 (0), .int .i64 (0), .nilsl]) := by kernel_rfl
@[simp] theorem Tryz.asize67 : asize Tryz.prog 67 = some 7 := by kernel_rfl
@[simp] theorem Tryz.info67 : Tryz.prog.info? 67 = some Tryz.t67 := by kernel_rfl
@[simp] theorem Tryz.tsize67 : Tryz.t67.size = 7 := by kernel_rfl
@[simp] theorem Tryz.tbytes67 : Tryz.t67.bytes = 96 := by kernel_rfl
@[simp] theorem Tryz.builder67 : builderTy Tryz.prog 67 = false := by kernel_rfl
@[simp] theorem Tryz.azero67 : azero Tryz.prog 67 = some (.agg [.str [], .str [], .str [], .int .i64 (0), .int .i64 (0), .nilsl, .int .i64 (0)]) := by kernel_rfl
@[simp] theorem Tryz.asize68 : asize Tryz.prog 68 = some 7 := by kernel_rfl
@[simp] theorem Tryz.info68 : Tryz.prog.info? 68 = some Tryz.t68 := by kernel_rfl
@[simp] theorem Tryz.tsize68 : Tryz.t68.size = 7 := by kernel_rfl
@[simp] theorem Tryz.tbytes68 : Tryz.t68.bytes = 96 := by kernel_rfl
@[simp] theorem Tryz.builder68 : builderTy Tryz.prog 68 = false := by kernel_rfl
@[simp] theorem Tryz.azero68 : azero Tryz.prog 68 = some (.agg [.str [], .str [], .str [], .int .i64 (0), .int .i64 (0), .nilsl, .int .i64 (0)]) := by kernel_rfl
@[simp] theorem Tryz.asize69 : asize Tryz.prog 69 = some 1 := by kernel_rfl
@[simp] theorem Tryz.info69 : Tryz.prog.info? 69 = some Tryz.t69 := by kernel_rfl
@[simp] theorem Tryz.tsize69 : Tryz.t69.size = 1 := by kernel_rfl
@[simp] theorem Tryz.tbytes69 : Tryz.t69.bytes = 24 := by kernel_rfl
@[simp] theorem Tryz.builder69 : builderTy Tryz.prog 69 = false := by kernel_rfl
@[simp] theorem Tryz.azero69 : azero Tryz.prog 69 = some (.nilsl) := by kernel_rfl
@[simp] theorem Tryz.asize70 : asize Tryz.prog 70 = some 1 := by kernel_rfl
@[simp] theorem Tryz.info70 : Tryz.prog.info? 70 = some Tryz.t70 := by kernel_rfl
@[simp] theorem Tryz.tsize70 : Tryz.t70.size = 1 := by kernel_rfl
@[simp] theorem Tryz.tbytes70 : Tryz.t70.bytes = 0 := by kernel_rfl
@[simp] theorem Tryz.builder70 : builderTy Tryz.prog 70 = false := by kernel_rfl
@[simp] theorem Tryz.asize72 : asize Tryz.prog 72 = some 1 := by kernel_rfl
@[simp] theorem Tryz.info72 : Tryz.prog.info? 72 = some Tryz.t72 := by kernel_rfl
@[simp] theorem Tryz.tsize72 : Tryz.t72.size = 1 := by kernel_rfl
@[simp] theorem Tryz.tbytes72 : Tryz.t72.bytes = 8 := by kernel_rfl
@[simp] theorem Tryz.builder72 : builderTy Tryz.prog 72 = false := by kernel_rfl
@[simp] theorem Tryz.azero72 : azero Tryz.prog 72 = some (.nilptr) := by kernel_rfl
@[simp] theorem Tryz.asize73 : asize Tryz.prog 73 = some 6 := by kernel_rfl
@[simp] theorem Tryz.info73 : Tryz.prog.info? 73 = some Tryz.t73 := by kernel_rfl
@[simp] theorem Tryz.tsize73 : Tryz.t73.size = 6 := by kernel_rfl
@[simp] theorem Tryz.tbytes73 : Tryz.t73.bytes = 64 := by kernel_rfl
@[simp] theorem Tryz.builder73 : builderTy Tryz.prog 73 = false := by kernel_rfl
@[simp] theorem Tryz.azero73 : azero Tryz.prog 73 = some (.agg [.nilsl, .int .i64 (0), .int .i64 (0), .int .i64 (0), .int .i64 (0), .int .i64 (0)]) := by kernel_rfl
@[simp] theorem Tryz.asize74 : asize Tryz.prog 74 = some 6 := by kernel_rfl
@[simp] theorem Tryz.info74 : Tryz.prog.info? 74 = some Tryz.t74 := by kernel_rfl
@[simp] theorem Tryz.tsize74 : Tryz.t74.size = 6 := by kernel_rfl
@[simp] theorem Tryz.tbytes74 : Tryz.t74.bytes = 64 := by kernel_rfl
@[simp] theorem Tryz.builder74 : builderTy Tryz.prog 74 = false := by kernel_rfl
@[simp] theorem Tryz.azero74 : azero Tryz.prog 74 = some (.agg [.nilsl, .int .i64 (0), .int .i64 (0), .int .i64 (0), .int .i64 (0), .int .i64 (0)]) := by kernel_rfl
@[simp] theorem Tryz.asize75 : asize Tryz.prog 75 = some 4 := by kernel_rfl
@[simp] theorem Tryz.info75 : Tryz.prog.info? 75 = some Tryz.t75 := by kernel_rfl
@[simp] theorem Tryz.tsize75 : Tryz.t75.size = 4 := by kernel_rfl
@[simp] theorem Tryz.tbytes75 : Tryz.t75.bytes = 40 := by kernel_rfl
@[simp] theorem Tryz.builder75 : builderTy Tryz.prog 75 = false := by kernel_rfl
@[simp] theorem Tryz.azero75 : azero Tryz.prog 75 = some (.agg [.int .i64 (0), .str [], .int .i64 (0), .int .i64 (0)]) := by kernel_rfl
@[simp] theorem Tryz.asize76 : asize Tryz.prog 76 = some 4 := by kernel_rfl
@[simp] theorem Tryz.info76 : Tryz.prog.info? 76 = some Tryz.t76 := by kernel_rfl
@[simp] theorem Tryz.tsize76 : Tryz.t76.size = 4 := by kernel_rfl
@[simp] theorem Tryz.tbytes76 : Tryz.t76.bytes = 40 := by kernel_rfl
@[simp] theorem Tryz.builder76 : builderTy Tryz.prog 76 = false := by kernel_rfl
@[simp] theorem Tryz.azero76 : azero Tryz.prog 76 = some (.agg [.int .i64 (0), .str [], .int .i64 (0), .int .i64 (0)]) := by kernel_rfl
@[simp] theorem Tryz.asize81 : asize Tryz.prog 81 = some 1 := by kernel_rfl
@[simp] theorem Tryz.info81 : Tryz.prog.info? 81 = some Tryz.t81 := by kernel_rfl
@[simp] theorem Tryz.tsize81 : Tryz.t81.size = 1 := by kernel_rfl
@[simp] theorem Tryz.tbytes81 : Tryz.t81.bytes = 8 := by kernel_rfl
@[simp] theorem Tryz.builder81 : builderTy Tryz.prog 81 = false := by kernel_rfl
@[simp] theorem Tryz.azero81 : azero Tryz.prog 81 = some (.nilptr) := by kernel_rfl
@[simp] theorem Tryz.asize82 : asize Tryz.prog 82 = some 2 := by kernel_rfl
@[simp] theorem Tryz.info82 : Tryz.prog.info? 82 = some Tryz.t82 := by kernel_rfl
@[simp] theorem Tryz.tsize82 : Tryz.t82.size = 2 := by kernel_rfl
@[simp] theorem Tryz.tbytes82 : Tryz.t82.bytes = 32 := by kernel_rfl
@[simp] theorem Tryz.builder82 : builderTy Tryz.prog 82 = false := by kernel_rfl
@[simp] theorem Tryz.azero82 : azero Tryz.prog 82 = some (.agg [.nilptr, .nilsl]) := by kernel_rfl
@[simp] theorem Tryz.asize83 : asize Tryz.prog 83 = some 2 := by kernel_rfl
@[simp] theorem Tryz.info83 : Tryz.prog.info? 83 = some Tryz.t83 := by kernel_rfl
@[simp] theorem Tryz.tsize83 : Tryz.t83.size = 2 := by kernel_rfl
@[simp] theorem Tryz.tbytes83 : Tryz.t83.bytes = 32 := by kernel_rfl
@[simp] theorem Tryz.builder83 : builderTy Tryz.prog 83 = true := by kernel_rfl
@[simp] theorem Tryz.azero83 : azero Tryz.prog 83 = some (.agg [.nilptr, .nilsl]) := by kernel_rfl
@[simp] theorem Tryz.asize86 : asize Tryz.prog 86 = some 1 := by kernel_rfl
@[simp] theorem Tryz.info86 : Tryz.prog.info? 86 = some Tryz.t86 := by kernel_rfl
@[simp] theorem Tryz.tsize86 : Tryz.t86.size = 1 := by kernel_rfl
@[simp] theorem Tryz.tbytes86 : Tryz.t86.bytes = 16 := by kernel_rfl
@[simp] theorem Tryz.builder86 : builderTy Tryz.prog 86 = false := by kernel_rfl
@[simp] theorem Tryz.azero86 : azero Tryz.prog 86 = some (.niliface) := by kernel_rfl
@[simp] theorem Tryz.asize87 : asize Tryz.prog 87 = some 1 := by kernel_rfl
@[simp] theorem Tryz.info87 : Tryz.prog.info? 87 = some Tryz.t87 := by kernel_rfl
@[simp] theorem Tryz.tsize87 : Tryz.t87.size = 1 := by kernel_rfl
@[simp] theorem Tryz.tbytes87 : Tryz.t87.bytes = 16 := by kernel_rfl
@[simp] theorem Tryz.builder87 : builderTy Tryz.prog 87 = false := by kernel_rfl
@[simp] theorem Tryz.azero87 : azero Tryz.prog 87 = some (.niliface) := by kernel_rfl
@[simp] theorem Tryz.asize88 : asize Tryz.prog 88 = some 1 := by kernel_rfl
@[simp] theorem Tryz.info88 : Tryz.prog.info? 88 = some Tryz.t88 := by kernel_rfl
@[simp] theorem Tryz.tsize88 : Tryz.t88.size = 1 := by kernel_rfl
@[simp] theorem Tryz.tbytes88 : Tryz.t88.bytes = 0 := by kernel_rfl
@[simp] theorem Tryz.builder88 : builderTy Tryz.prog 88 = false := by kernel_rfl
@[simp] theorem Tryz.azero88 : azero Tryz.prog 88 = some (.tuple [.int .i64 (0), .niliface]) := by kernel_rfl
@[simp] theorem Tryz.asize92 : asize Tryz.prog 92 = some 1 := by kernel_rfl
@[simp] theorem Tryz.info92 : Tryz.prog.info? 92 = some Tryz.t92 := by kernel_rfl
@[simp] theorem Tryz.tsize92 : Tryz.t92.size = 1 := by kernel_rfl
@[simp] theorem Tryz.tbytes92 : Tryz.t92.bytes = 8 := by kernel_rfl
@[simp] theorem Tryz.builder92 : builderTy Tryz.prog 92 = false := by kernel_rfl
@[simp] theorem Tryz.azero92 : azero Tryz.prog 92 = some (.int .i64 (0)) := by kernel_rfl
@[simp] theorem Tryz.asize93 : asize Tryz.prog 93 = some 5 := by kernel_rfl
@[simp] theorem Tryz.info93 : Tryz.prog.info? 93 = some Tryz.t93 := by kernel_rfl
@[simp] theorem Tryz.tsize93 : Tryz.t93.size = 5 := by kernel_rfl
@[simp] theorem Tryz.tbytes93 : Tryz.t93.bytes = 56 := by kernel_rfl
@[simp] theorem Tryz.builder93 : builderTy Tryz.prog 93 = false := by kernel_rfl
@[simp] theorem Tryz.azero93 : azero Tryz.prog 93 = some (.agg [.str [], .int .i64 (0), .str [], .bool false, .int .i64 (0)]) := by kernel_rfl
@[simp] theorem Tryz.asize94 : asize Tryz.prog 94 = some 5 := by kernel_rfl
@[simp] theorem Tryz.info94 : Tryz.prog.info? 94 = some Tryz.t94 := by kernel_rfl
@[simp] theorem Tryz.tsize94 : Tryz.t94.size = 5 := by kernel_rfl
@[simp] theorem Tryz.tbytes94 : Tryz.t94.bytes = 56 := by kernel_rfl
@[simp] theorem Tryz.builder94 : builderTy Tryz.prog 94 = false := by kernel_rfl
@[simp] theorem Tryz.azero94 : azero Tryz.prog 94 = some (.agg [.str [], .int .i64 (0), .str [], .bool false, .int .i64 (0)]) := by kernel_rfl
@[simp] theorem Tryz.asize95 : asize Tryz.prog 95 = some 1 := by kernel_rfl
@[simp] theorem Tryz.info95 : Tryz.prog.info? 95 = some Tryz.t95 := by kernel_rfl
@[simp] theorem Tryz.tsize95 : Tryz.t95.size = 1 := by kernel_rfl
@[simp] theorem Tryz.tbytes95 : Tryz.t95.bytes = 8 := by kernel_rfl
@[simp] theorem Tryz.builder95 : builderTy Tryz.prog 95 = false := by kernel_rfl
@[simp] theorem Tryz.azero95 : azero Tryz.prog 95 = some (.nilfunc) := by kernel_rfl
@[simp] theorem Tryz.asize96 : asize Tryz.prog 96 = some 1 := by kernel_rfl
@[simp] theorem Tryz.info96 : Tryz.prog.info? 96 = some Tryz.t96 := by kernel_rfl
@[simp] theorem Tryz.tsize96 : Tryz.t96.size = 1 := by kernel_rfl
@[simp] theorem Tryz.tbytes96 : Tryz.t96.bytes = 8 := by kernel_rfl
@[simp] theorem Tryz.builder96 : builderTy Tryz.prog 96 = false := by kernel_rfl
@[simp] theorem Tryz.azero96 : azero Tryz.prog 96 = some (.nilfunc) := by kernel_rfl
@[simp] theorem Tryz.asize97 : asize Tryz.prog 97 = some 1 := by kernel_rfl
@[simp] theorem Tryz.info97 : Tryz.prog.info? 97 = some Tryz.t97 := by kernel_rfl
@[simp] theorem Tryz.tsize97 : Tryz.t97.size = 1 := by kernel_rfl
@[simp] theorem Tryz.tbytes97 : Tryz.t97.bytes = 8 := by kernel_rfl
@[simp] theorem Tryz.builder97 : builderTy Tryz.prog 97 = false := by kernel_rfl
@[simp] theorem Tryz.azero97 : azero Tryz.prog 97 = some (.nilfunc) := by kernel_rfl
@[simp] theorem Tryz.asize98 : asize Tryz.prog 98 = some 1 := by kernel_rfl
@[simp] theorem Tryz.info98 : Tryz.prog.info? 98 = some Tryz.t98 := by kernel_rfl
@[simp] theorem Tryz.tsize98 : Tryz.t98.size = 1 := by kernel_rfl
@[simp] theorem Tryz.tbytes98 : Tryz.t98.bytes = 8 := by kernel_rfl
@[simp] theorem Tryz.builder98 : builderTy Tryz.prog 98 = false := by kernel_rfl
@[simp] theorem Tryz.azero98 : azero Tryz.prog 98 = some (.nilfunc) := by kernel_rfl
@[simp] theorem Tryz.asize101 : asize Tryz.prog 101 = some 1 := by kernel_rfl
@[simp] theorem Tryz.info101 : Tryz.prog.info? 101 = some Tryz.t101 := by kernel_rfl
@[simp] theorem Tryz.tsize101 : Tryz.t101.size = 1 := by kernel_rfl
@[simp] theorem Tryz.tbytes101 : Tryz.t101.bytes = 8 := by kernel_rfl
@[simp] theorem Tryz.builder101 : builderTy Tryz.prog 101 = false := by kernel_rfl
@[simp] theorem Tryz.azero101 : azero Tryz.prog 101 = some (.nilfunc) := by kernel_rfl
@[simp] theorem Tryz.asize107 : asize Tryz.prog 107 = some 1 := by kernel_rfl
@[simp] theorem Tryz.info107 : Tryz.prog.info? 107 = some Tryz.t107 := by kernel_rfl
@[simp] theorem Tryz.tsize107 : Tryz.t107.size = 1 := by kernel_rfl
@[simp] theorem Tryz.tbytes107 : Tryz.t107.bytes = 8 := by kernel_rfl
@[simp] theorem Tryz.builder107 : builderTy Tryz.prog 107 = false := by kernel_rfl
@[simp] theorem Tryz.azero107 : azero Tryz.prog 107 = some (.nilfunc) := by kernel_rfl
@[simp] theorem Tryz.asize111 : asize Tryz.prog 111 = some 1 := by kernel_rfl
@[simp] theorem Tryz.info111 : Tryz.prog.info? 111 = some Tryz.t111 := by kernel_rfl
@[simp] theorem Tryz.tsize111 : Tryz.t111.size = 1 := by kernel_rfl
@[simp] theorem Tryz.tbytes111 : Tryz.t111.bytes = 8 := by kernel_rfl
@[simp] theorem Tryz.builder111 : builderTy Tryz.prog 111 = false := by kernel_rfl
@[simp] theorem Tryz.azero111 : azero Tryz.prog 111 = some (.nilfunc) := by kernel_rfl
@[simp] theorem Tryz.asize112 : asize Tryz.prog 112 = some 1 := by kernel_rfl
@[simp] theorem Tryz.info112 : Tryz.prog.info? 112 = some Tryz.t112 := by kernel_rfl
@[simp] theorem Tryz.tsize112 : Tryz.t112.size = 1 := by kernel_rfl
@[simp] theorem Tryz.tbytes112 : Tryz.t112.bytes = 24 := by kernel_rfl
@[simp] theorem Tryz.builder112 : builderTy Tryz.prog 112 = false := by kernel_rfl
@[simp] theorem Tryz.azero112 : azero Tryz.prog 112 = some (.nilsl) := by kernel_rfl
@[simp] theorem Tryz.asize120 : asize Tryz.prog 120 = some 1 := by kernel_rfl
@[simp] theorem Tryz.info120 : Tryz.prog.info? 120 = some Tryz.t120 := by kernel_rfl
@[simp] theorem Tryz.tsize120 : Tryz.t120.size = 1 := by kernel_rfl
@[simp] theorem Tryz.tbytes120 : Tryz.t120.bytes = 8 := by kernel_rfl
@[simp] theorem Tryz.builder120 : builderTy Tryz.prog 120 = false := by kernel_rfl
@[simp] theorem Tryz.azero120 : azero Tryz.prog 120 = some (.nilfunc) := by kernel_rfl
@[simp] theorem Tryz.asize121 : asize Tryz.prog 121 = some 1 := by kernel_rfl
@[simp] theorem Tryz.info121 : Tryz.prog.info? 121 = some Tryz.t121 := by kernel_rfl
@[simp] theorem Tryz.tsize121 : Tryz.t121.size = 1 := by kernel_rfl
@[simp] theorem Tryz.tbytes121 : Tryz.t121.bytes = 0 := by kernel_rfl
@[simp] theorem Tryz.builder121 : builderTy Tryz.prog 121 = false := by kernel_rfl
@[simp] theorem Tryz.asize122 : asize Tryz.prog 122 = some 1 := by kernel_rfl
@[simp] theorem Tryz.info122 : Tryz.prog.info? 122 = some Tryz.t122 := by kernel_rfl
@[simp] theorem Tryz.tsize122 : Tryz.t122.size = 1 := by kernel_rfl
@[simp] theorem Tryz.tbytes122 : Tryz.t122.bytes = 8 := by kernel_rfl
@[simp] theorem Tryz.builder122 : builderTy Tryz.prog 122 = false := by kernel_rfl
@[simp] theorem Tryz.azero122 : azero Tryz.prog 122 = some (.nilfunc) := by kernel_rfl
@[simp] theorem Tryz.asize125 : asize Tryz.prog 125 = some 1 := by kernel_rfl
@[simp] theorem Tryz.info125 : Tryz.prog.info? 125 = some Tryz.t125 := by kernel_rfl
@[simp] theorem Tryz.tsize125 : Tryz.t125.size = 1 := by kernel_rfl
@[simp] theorem Tryz.tbytes125 : Tryz.t125.bytes = 8 := by kernel_rfl
@[simp] theorem Tryz.builder125 : builderTy Tryz.prog 125 = false := by kernel_rfl
@[simp] theorem Tryz.azero125 : azero Tryz.prog 125 = some (.nilfunc) := by kernel_rfl
@[simp] theorem Tryz.asize126 : asize Tryz.prog 126 = some 1 := by kernel_rfl
@[simp] theorem Tryz.info126 : Tryz.prog.info? 126 = some Tryz.t126 := by kernel_rfl
@[simp] theorem Tryz.tsize126 : Tryz.t126.size = 1 := by kernel_rfl
@[simp] theorem Tryz.tbytes126 : Tryz.t126.bytes = 24 := by kernel_rfl
@[simp] theorem Tryz.builder126 : builderTy Tryz.prog 126 = false := by kernel_rfl
@[simp] theorem Tryz.azero126 : azero Tryz.prog 126 = some (.nilsl) := by kernel_rfl
@[simp] theorem Tryz.asize128 : asize Tryz.prog 128 = some 1 := by kernel_rfl
@[simp] theorem Tryz.info128 : Tryz.prog.info? 128 = some Tryz.t128 := by kernel_rfl
@[simp] theorem Tryz.tsize128 : Tryz.t128.size = 1 := by kernel_rfl
@[simp] theorem Tryz.tbytes128 : Tryz.t128.bytes = 8 := by kernel_rfl
@[simp] theorem Tryz.builder128 : builderTy Tryz.prog 128 = false := by kernel_rfl
@[simp] theorem Tryz.azero128 : azero Tryz.prog 128 = some (.nilfunc) := by kernel_rfl
@[simp] theorem Tryz.asize131 : asize Tryz.prog 131 = some 1 := by kernel_rfl
@[simp] theorem Tryz.info131 : Tryz.prog.info? 131 = some Tryz.t131 := by kernel_rfl
@[simp] theorem Tryz.tsize131 : Tryz.t131.size = 1 := by kernel_rfl
@[simp] theorem Tryz.tbytes131 : Tryz.t131.bytes = 8 := by kernel_rfl
@[simp] theorem Tryz.builder131 : builderTy Tryz.prog 131 = false := by kernel_rfl
@[simp] theorem Tryz.azero131 : azero Tryz.prog 131 = some (.nilptr) := by kernel_rfl
@[simp] theorem Tryz.asize133 : asize Tryz.prog 133 = some 5 := by kernel_rfl
@[simp] theorem Tryz.info133 : Tryz.prog.info? 133 = some Tryz.t133 := by kernel_rfl
@[simp] theorem Tryz.tsize133 : Tryz.t133.size = 5 := by kernel_rfl
@[simp] theorem Tryz.tbytes133 : Tryz.t133.bytes = 56 := by kernel_rfl
@[simp] theorem Tryz.builder133 : builderTy Tryz.prog 133 = false := by kernel_rfl
@[simp] theorem Tryz.azero133 : azero Tryz.prog 133 = some (.agg [.str [], .int .i64 (0), .str [], .bool false, .int .i64 (0)]) := by kernel_rfl
@[simp] theorem Tryz.asize134 : asize Tryz.prog 134 = some 5 := by kernel_rfl
@[simp] theorem Tryz.info134 : Tryz.prog.info? 134 = some Tryz.t134 := by kernel_rfl
@[simp] theorem Tryz.tsize134 : Tryz.t134.size = 5 := by kernel_rfl
@[simp] theorem Tryz.tbytes134 : Tryz.t134.bytes = 56 := by kernel_rfl
@[simp] theorem Tryz.builder134 : builderTy Tryz.prog 134 = false := by kernel_rfl
@[simp] theorem Tryz.azero134 : azero Tryz.prog 134 = some (.agg [.str [], .int .i64 (0), .str [], .bool false, .int .i64 (0)]) := by kernel_rfl
@[simp] theorem Tryz.asize136 : asize Tryz.prog 136 = some 2 := by kernel_rfl
@[simp] theorem Tryz.info136 : Tryz.prog.info? 136 = some Tryz.t136 := by kernel_rfl
@[simp] theorem Tryz.tsize136 : Tryz.t136.size = 2 := by kernel_rfl
@[simp] theorem Tryz.tbytes136 : Tryz.t136.bytes = 16 := by kernel_rfl
@[simp] theorem Tryz.builder136 : builderTy Tryz.prog 136 = false := by kernel_rfl
@[simp] theorem Tryz.azero136 : azero Tryz.prog 136 = some (.agg [.int .i64 (0), .int .i64 (0)]) := by kernel_rfl
@[simp] theorem Tryz.asize149 : asize Tryz.prog 149 = some 4 := by kernel_rfl
@[simp] theorem Tryz.info149 : Tryz.prog.info? 149 = some Tryz.t149 := by kernel_rfl
@[simp] theorem Tryz.tsize149 : Tryz.t149.size = 4 := by kernel_rfl
@[simp] theorem Tryz.tbytes149 : Tryz.t149.bytes = 32 := by kernel_rfl
@[simp] theorem Tryz.builder149 : builderTy Tryz.prog 149 = false := by kernel_rfl
@[simp] theorem Tryz.azero149 : azero Tryz.prog 149 = some (.agg [.int .i64 (0), .int .i64 (0), .int .i64 (0), .int .i64 (0)]) := by kernel_rfl
@[simp] theorem Tryz.asize150 : asize Tryz.prog 150 = some 4 := by kernel_rfl
@[simp] theorem Tryz.info150 : Tryz.prog.info? 150 = some Tryz.t150 := by kernel_rfl
@[simp] theorem Tryz.tsize150 : Tryz.t150.size = 4 := by kernel_rfl
@[simp] theorem Tryz.tbytes150 : Tryz.t150.bytes = 32 := by kernel_rfl
@[simp] theorem Tryz.builder150 : builderTy Tryz.prog 150 = false := by kernel_rfl
@[simp] theorem Tryz.azero150 : azero Tryz.prog 150 = some (.agg [.int .i64 (0), .int .i64 (0), .int .i64 (0), .int .i64 (0)]) := by kernel_rfl
@[simp] theorem Tryz.asize152 : asize Tryz.prog 152 = some 1 := by kernel_rfl
@[simp] theorem Tryz.info152 : Tryz.prog.info? 152 = some Tryz.t152 := by kernel_rfl
@[simp] theorem Tryz.tsize152 : Tryz.t152.size = 1 := by kernel_rfl
@[simp] theorem Tryz.tbytes152 : Tryz.t152.bytes = 4 := by kernel_rfl
@[simp] theorem Tryz.builder152 : builderTy Tryz.prog 152 = false := by kernel_rfl
@[simp] theorem Tryz.azero152 : azero Tryz.prog 152 = some (.int .u32 (0)) := by kernel_rfl
@[simp] theorem Tryz.asize154 : asize Tryz.prog 154 = some 1 := by kernel_rfl
@[simp] theorem Tryz.info154 : Tryz.prog.info? 154 = some Tryz.t154 := by kernel_rfl
@[simp] theorem Tryz.tsize154 : Tryz.t154.size = 1 := by kernel_rfl
@[simp] theorem Tryz.tbytes154 : Tryz.t154.bytes = 8 := by kernel_rfl
@[simp] theorem Tryz.builder154 : builderTy Tryz.prog 154 = false := by kernel_rfl
@[simp] theorem Tryz.azero154 : azero Tryz.prog 154 = some (.int .u64 (0)) := by kernel_rfl
@[simp] theorem Tryz.asize165 : asize Tryz.prog 165 = some 1 := by kernel_rfl
@[simp] theorem Tryz.info165 : Tryz.prog.info? 165 = some Tryz.t165 := by kernel_rfl
@[simp] theorem Tryz.tsize165 : Tryz.t165.size = 1 := by kernel_rfl
@[simp] theorem Tryz.tbytes165 : Tryz.t165.bytes = 8 := by kernel_rfl
@[simp] theorem Tryz.builder165 : builderTy Tryz.prog 165 = false := by kernel_rfl
@[simp] theorem Tryz.azero165 : azero Tryz.prog 165 = some (.nilptr) := by kernel_rfl
@[simp] theorem Tryz.asize166 : asize Tryz.prog 166 = some 12 := by kernel_rfl
@[simp] theorem Tryz.info166 : Tryz.prog.info? 166 = some Tryz.t166 := by kernel_rfl
@[simp] theorem Tryz.tsize166 : Tryz.t166.size = 12 := by kernel_rfl
@[simp] theorem Tryz.tbytes166 : Tryz.t166.bytes = 192 := by kernel_rfl
@[simp] theorem Tryz.builder166 : builderTy Tryz.prog 166 = false := by kernel_rfl
@[simp] theorem Tryz.azero166 : azero Tryz.prog 166 = some (.agg [.str [], .nilsl, .nilsl, .nilsl, .nilsl, .int .i64 (0), .str [], .str [], .int .i64 (0), .str [], .bool false, .int .i64 (0)]) := by kernel_rfl
@[simp] theorem Tryz.asize167 : asize Tryz.prog 167 = some 12 := by kernel_rfl
@[simp] theorem Tryz.info167 : Tryz.prog.info? 167 = some Tryz.t167 := by kernel_rfl
@[simp] theorem Tryz.tsize167 : Tryz.t167.size = 12 := by kernel_rfl
@[simp] theorem Tryz.tbytes167 : Tryz.t167.bytes = 192 := by kernel_rfl
@[simp] theorem Tryz.builder167 : builderTy Tryz.prog 167 = false := by kernel_rfl
@[simp] theorem Tryz.azero167 : azero Tryz.prog 167 = some (.agg [.str [], .nilsl, .nilsl, .nilsl, .nilsl, .int .i64 (0), .str [], .str [], .int .i64 (0), .str [], .bool false, .int .i64 (0)]) := by kernel_rfl
@[simp] theorem Tryz.asize178 : asize Tryz.prog 178 = some 1 := by kernel_rfl
@[simp] theorem Tryz.info178 : Tryz.prog.info? 178 = some Tryz.t178 := by kernel_rfl
@[simp] theorem Tryz.tsize178 : Tryz.t178.size = 1 := by kernel_rfl
@[simp] theorem Tryz.tbytes178 : Tryz.t178.bytes = 24 := by kernel_rfl
@[simp] theorem Tryz.builder178 : builderTy Tryz.prog 178 = false := by kernel_rfl
@[simp] theorem Tryz.azero178 : azero Tryz.prog 178 = some (.nilsl) := by kernel_rfl
@[simp] theorem Tryz.asize189 : asize Tryz.prog 189 = some 1 := by kernel_rfl
@[simp] theorem Tryz.info189 : Tryz.prog.info? 189 = some Tryz.t189 := by kernel_rfl
@[simp] theorem Tryz.tsize189 : Tryz.t189.size = 1 := by kernel_rfl
@[simp] theorem Tryz.tbytes189 : Tryz.t189.bytes = 8 := by kernel_rfl
@[simp] theorem Tryz.builder189 : builderTy Tryz.prog 189 = false := by kernel_rfl
@[simp] theorem Tryz.azero189 : azero Tryz.prog 189 = some (.nilptr) := by kernel_rfl
@[simp] theorem Tryz.asize215 : asize Tryz.prog 215 = some 6 := by kernel_rfl
@[simp] theorem Tryz.info215 : Tryz.prog.info? 215 = some Tryz.t215 := by kernel_rfl
@[simp] theorem Tryz.tsize215 : Tryz.t215.size = 6 := by kernel_rfl
@[simp] theorem Tryz.tbytes215 : Tryz.t215.bytes = 144 := by kernel_rfl
@[simp] theorem Tryz.builder215 : builderTy Tryz.prog 215 = false := by kernel_rfl
@[simp] theorem Tryz.azero215 : azero Tryz.prog 215 = some (.agg [.nilsl, .nilsl, .nilsl, .nilsl, .nilsl, .nilsl]) := by kernel_rfl
@[simp] theorem Tryz.asize229 : asize Tryz.prog 229 = some 1 := by kernel_rfl
@[simp] theorem Tryz.info229 : Tryz.prog.info? 229 = some Tryz.t229 := by kernel_rfl
@[simp] theorem Tryz.tsize229 : Tryz.t229.size = 1 := by kernel_rfl
@[simp] theorem Tryz.tbytes229 : Tryz.t229.bytes = 8 := by kernel_rfl
@[simp] theorem Tryz.builder229 : builderTy Tryz.prog 229 = false := by kernel_rfl
@[simp] theorem Tryz.azero229 : azero Tryz.prog 229 = some (.int .u64 (0)) := by kernel_rfl
@[simp] theorem Tryz.asize256 : asize Tryz.prog 256 = some 2 := by kernel_rfl
@[simp] theorem Tryz.info256 : Tryz.prog.info? 256 = some Tryz.t256 := by kernel_rfl
@[simp] theorem Tryz.tsize256 : Tryz.t256.size = 2 := by kernel_rfl
@[simp] theorem Tryz.tbytes256 : Tryz.t256.bytes = 32 := by kernel_rfl
@[simp] theorem Tryz.builder256 : builderTy Tryz.prog 256 = false := by kernel_rfl
@[simp] theorem Tryz.azero256 : azero Tryz.prog 256 = some (.agg [.int .i64 (0), .nilsl]) := by kernel_rfl
@[simp] theorem Tryz.asize260 : asize Tryz.prog 260 = some 1 := by kernel_rfl
@[simp] theorem Tryz.info260 : Tryz.prog.info? 260 = some Tryz.t260 := by kernel_rfl
@[simp] theorem Tryz.tsize260 : Tryz.t260.size = 1 := by kernel_rfl
@[simp] theorem Tryz.tbytes260 : Tryz.t260.bytes = 0 := by kernel_rfl
@[simp] theorem Tryz.builder260 : builderTy Tryz.prog 260 = false := by kernel_rfl
@[simp] theorem Tryz.azero260 : azero Tryz.prog 260 = some (.tuple [.int .i64 (0), .niliface]) := by kernel_rfl
@[simp] theorem Tryz.asize276 : asize Tryz.prog 276 = some 2 := by kernel_rfl
@[simp] theorem Tryz.info276 : Tryz.prog.info? 276 = some Tryz.t276 := by kernel_rfl
@[simp] theorem Tryz.tsize276 : Tryz.t276.size = 2 := by kernel_rfl
@[simp] theorem Tryz.tbytes276 : Tryz.t276.bytes = 24 := by kernel_rfl
@[simp] theorem Tryz.builder276 : builderTy Tryz.prog 276 = false := by kernel_rfl
@[simp] theorem Tryz.azero276 : azero Tryz.prog 276 = some (.agg [.str [], .bool false]) := by kernel_rfl
@[simp] theorem Tryz.asize277 : asize Tryz.prog 277 = some 2 := by kernel_rfl
@[simp] theorem Tryz.info277 : Tryz.prog.info? 277 = some Tryz.t277 := by kernel_rfl
@[simp] theorem Tryz.tsize277 : Tryz.t277.size = 2 := by kernel_rfl
@[simp] theorem Tryz.tbytes277 : Tryz.t277.bytes = 24 := by kernel_rfl
@[simp] theorem Tryz.builder277 : builderTy Tryz.prog 277 = false := by kernel_rfl
@[simp] theorem Tryz.azero277 : azero Tryz.prog 277 = some (.agg [.str [], .bool false]) := by kernel_rfl
@[simp] theorem Tryz.asize284 : asize Tryz.prog 284 = some 1 := by kernel_rfl
@[simp] theorem Tryz.info284 : Tryz.prog.info? 284 = some Tryz.t284 := by kernel_rfl
@[simp] theorem Tryz.tsize284 : Tryz.t284.size = 1 := by kernel_rfl
@[simp] theorem Tryz.tbytes284 : Tryz.t284.bytes = 8 := by kernel_rfl
@[simp] theorem Tryz.builder284 : builderTy Tryz.prog 284 = false := by kernel_rfl
@[simp] theorem Tryz.azero284 : azero Tryz.prog 284 = some (.nilfunc) := by kernel_rfl
@[simp] theorem Tryz.asize300 : asize Tryz.prog 300 = some 1 := by kernel_rfl
@[simp] theorem Tryz.info300 : Tryz.prog.info? 300 = some Tryz.t300 := by kernel_rfl
@[simp] theorem Tryz.tsize300 : Tryz.t300.size = 1 := by kernel_rfl
@[simp] theorem Tryz.tbytes300 : Tryz.t300.bytes = 8 := by kernel_rfl
@[simp] theorem Tryz.builder300 : builderTy Tryz.prog 300 = false := by kernel_rfl
@[simp] theorem Tryz.azero300 : azero Tryz.prog 300 = some (.nilfunc) := by kernel_rfl
@[simp] theorem Tryz.asize309 : asize Tryz.prog 309 = some 256 := by kernel_rfl
@[simp] theorem Tryz.info309 : Tryz.prog.info? 309 = some Tryz.t309 := by kernel_rfl
@[simp] theorem Tryz.tsize309 : Tryz.t309.size = 256 := by kernel_rfl
@[simp] theorem Tryz.tbytes309 : Tryz.t309.bytes = 256 := by kernel_rfl
@[simp] theorem Tryz.builder309 : builderTy Tryz.prog 309 = false := by kernel_rfl
@[simp] theorem Tryz.asize310 : asize Tryz.prog 310 = some 256 := by kernel_rfl
@[simp] theorem Tryz.info310 : Tryz.prog.info? 310 = some Tryz.t310 := by kernel_rfl
@[simp] theorem Tryz.tsize310 : Tryz.t310.size = 256 := by kernel_rfl
@[simp] theorem Tryz.tbytes310 : Tryz.t310.bytes = 256 := by kernel_rfl
@[simp] theorem Tryz.builder310 : builderTy Tryz.prog 310 = false := by kernel_rfl
@[simp] theorem Tryz.asize311 : asize Tryz.prog 311 = some 1 := by kernel_rfl
@[simp] theorem Tryz.info311 : Tryz.prog.info? 311 = some Tryz.t311 := by kernel_rfl
@[simp] theorem Tryz.tsize311 : Tryz.t311.size = 1 := by kernel_rfl
@[simp] theorem Tryz.tbytes311 : Tryz.t311.bytes = 0 := by kernel_rfl
@[simp] theorem Tryz.builder311 : builderTy Tryz.prog 311 = false := by kernel_rfl
@[simp] theorem Tryz.asize314 : asize Tryz.prog 314 = some 1 := by kernel_rfl
@[simp] theorem Tryz.info314 : Tryz.prog.info? 314 = some Tryz.t314 := by kernel_rfl
@[simp] theorem Tryz.tsize314 : Tryz.t314.size = 1 := by kernel_rfl
@[simp] theorem Tryz.tbytes314 : Tryz.t314.bytes = 8 := by kernel_rfl
@[simp] theorem Tryz.builder314 : builderTy Tryz.prog 314 = false := by kernel_rfl
@[simp] theorem Tryz.azero314 : azero Tryz.prog 314 = some (.nilptr) := by kernel_rfl
@[simp] theorem Tryz.asize350 : asize Tryz.prog 350 = some 1 := by kernel_rfl
@[simp] theorem Tryz.info350 : Tryz.prog.info? 350 = some Tryz.t350 := by kernel_rfl
@[simp] theorem Tryz.tsize350 : Tryz.t350.size = 1 := by kernel_rfl
@[simp] theorem Tryz.tbytes350 : Tryz.t350.bytes = 8 := by kernel_rfl
@[simp] theorem Tryz.builder350 : builderTy Tryz.prog 350 = false := by kernel_rfl
@[simp] theorem Tryz.azero350 : azero Tryz.prog 350 = some (.int .i64 (0)) := by kernel_rfl
@[simp] theorem Tryz.asize351 : asize Tryz.prog 351 = some 1 := by kernel_rfl
@[simp] theorem Tryz.info351 : Tryz.prog.info? 351 = some Tryz.t351 := by kernel_rfl
@[simp] theorem Tryz.tsize351 : Tryz.t351.size = 1 := by kernel_rfl
@[simp] theorem Tryz.tbytes351 : Tryz.t351.bytes = 0 := by kernel_rfl
@[simp] theorem Tryz.builder351 : builderTy Tryz.prog 351 = false := by kernel_rfl
@[simp] theorem Tryz.azero351 : azero Tryz.prog 351 = some (.tuple [.int .u64 (0), .niliface]) := by kernel_rfl
@[simp] theorem Tryz.asize353 : asize Tryz.prog 353 = some 1 := by kernel_rfl
@[simp] theorem Tryz.info353 : Tryz.prog.info? 353 = some Tryz.t353 := by kernel_rfl
@[simp] theorem Tryz.tsize353 : Tryz.t353.size = 1 := by kernel_rfl
@[simp] theorem Tryz.tbytes353 : Tryz.t353.bytes = 8 := by kernel_rfl
@[simp] theorem Tryz.builder353 : builderTy Tryz.prog 353 = false := by kernel_rfl
@[simp] theorem Tryz.azero353 : azero Tryz.prog 353 = some (.nilptr) := by kernel_rfl
@[simp] theorem Tryz.asize369 : asize Tryz.prog 369 = some 3 := by kernel_rfl
@[simp] theorem Tryz.info369 : Tryz.prog.info? 369 = some Tryz.t369 := by kernel_rfl
@[simp] theorem Tryz.tsize369 : Tryz.t369.size = 3 := by kernel_rfl
@[simp] theorem Tryz.tbytes369 : Tryz.t369.bytes = 48 := by kernel_rfl
@[simp] theorem Tryz.builder369 : builderTy Tryz.prog 369 = false := by kernel_rfl
@[simp] theorem Tryz.azero369 : azero Tryz.prog 369 = some (.agg [.str [], .str [], .niliface]) := by kernel_rfl
@[simp] theorem Tryz.asize370 : asize Tryz.prog 370 = some 3 := by kernel_rfl
@[simp] theorem Tryz.info370 : Tryz.prog.info? 370 = some Tryz.t370 := by kernel_rfl
@[simp] theorem Tryz.tsize370 : Tryz.t370.size = 3 := by kernel_rfl
@[simp] theorem Tryz.tbytes370 : Tryz.t370.bytes = 48 := by kernel_rfl
@[simp] theorem Tryz.builder370 : builderTy Tryz.prog 370 = false := by kernel_rfl
@[simp] theorem Tryz.azero370 : azero Tryz.prog 370 = some (.agg [.str [], .str [], .niliface]) := by kernel_rfl
@[simp] theorem Tryz.asize385 : asize Tryz.prog 385 = some 4 := by kernel_rfl
@[simp] theorem Tryz.info385 : Tryz.prog.info? 385 = some Tryz.t385 := by kernel_rfl
@[simp] theorem Tryz.tsize385 : Tryz.t385.size = 4 := by kernel_rfl
@[simp] theorem Tryz.tbytes385 : Tryz.t385.bytes = 40 := by kernel_rfl
@[simp] theorem Tryz.builder385 : builderTy Tryz.prog 385 = false := by kernel_rfl
@[simp] theorem Tryz.azero385 : azero Tryz.prog 385 = some (.agg [.nilptr, .nilptr, .nilptr, .str []]) := by kernel_rfl
@[simp] theorem Tryz.asize386 : asize Tryz.prog 386 = some 4 := by kernel_rfl
@[simp] theorem Tryz.info386 : Tryz.prog.info? 386 = some Tryz.t386 := by kernel_rfl
@[simp] theorem Tryz.tsize386 : Tryz.t386.size = 4 := by kernel_rfl
@[simp] theorem Tryz.tbytes386 : Tryz.t386.bytes = 40 := by kernel_rfl
@[simp] theorem Tryz.builder386 : builderTy Tryz.prog 386 = false := by kernel_rfl
@[simp] theorem Tryz.azero386 : azero Tryz.prog 386 = some (.agg [.nilptr, .nilptr, .nilptr, .str []]) := by kernel_rfl
@[simp] theorem Tryz.asize387 : asize Tryz.prog 387 = some 0 := by kernel_rfl
@[simp] theorem Tryz.info387 : Tryz.prog.info? 387 = some Tryz.t387 := by kernel_rfl
@[simp] theorem Tryz.tsize387 : Tryz.t387.size = 0 := by kernel_rfl
@[simp] theorem Tryz.tbytes387 : Tryz.t387.bytes = 0 := by kernel_rfl
@[simp] theorem Tryz.builder387 : builderTy Tryz.prog 387 = false := by kernel_rfl
@[simp] theorem Tryz.azero387 : azero Tryz.prog 387 = some (.agg []) := by kernel_rfl
@[simp] theorem Tryz.asize388 : asize Tryz.prog 388 = some 0 := by kernel_rfl
@[simp] theorem Tryz.info388 : Tryz.prog.info? 388 = some Tryz.t388 := by kernel_rfl
@[simp] theorem Tryz.tsize388 : Tryz.t388.size = 0 := by kernel_rfl
@[simp] theorem Tryz.tbytes388 : Tryz.t388.bytes = 0 := by kernel_rfl
@[simp] theorem Tryz.builder388 : builderTy Tryz.prog 388 = false := by kernel_rfl
@[simp] theorem Tryz.azero388 : azero Tryz.prog 388 = some (.agg []) := by kernel_rfl
@[simp] theorem Tryz.asize389 : asize Tryz.prog 389 = some 0 := by kernel_rfl
@[simp] theorem Tryz.info389 : Tryz.prog.info? 389 = some Tryz.t389 := by kernel_rfl
@[simp] theorem Tryz.tsize389 : Tryz.t389.size = 0 := by kernel_rfl
@[simp] theorem Tryz.tbytes389 : Tryz.t389.bytes = 0 := by kernel_rfl
@[simp] theorem Tryz.builder389 : builderTy Tryz.prog 389 = false := by kernel_rfl
@[simp] theorem Tryz.azero389 : azero Tryz.prog 389 = some (.agg []) := by kernel_rfl
@[simp] theorem Tryz.asize390 : asize Tryz.prog 390 = some 1 := by kernel_rfl
@[simp] theorem Tryz.info390 : Tryz.prog.info? 390 = some Tryz.t390 := by kernel_rfl
@[simp] theorem Tryz.tsize390 : Tryz.t390.size = 1 := by kernel_rfl
@[simp] theorem Tryz.tbytes390 : Tryz.t390.bytes = 1 := by kernel_rfl
@[simp] theorem Tryz.builder390 : builderTy Tryz.prog 390 = false := by kernel_rfl
@[simp] theorem Tryz.azero390 : azero Tryz.prog 390 = some (.int .u8 (0)) := by kernel_rfl
@[simp] theorem Tryz.asize391 : asize Tryz.prog 391 = some 1 := by kernel_rfl
@[simp] theorem Tryz.info391 : Tryz.prog.info? 391 = some Tryz.t391 := by kernel_rfl
@[simp] theorem Tryz.tsize391 : Tryz.t391.size = 1 := by kernel_rfl
@[simp] theorem Tryz.tbytes391 : Tryz.t391.bytes = 1 := by kernel_rfl
@[simp] theorem Tryz.builder391 : builderTy Tryz.prog 391 = false := by kernel_rfl
@[simp] theorem Tryz.azero391 : azero Tryz.prog 391 = some (.int .u8 (0)) := by kernel_rfl
@[simp] theorem Tryz.asize392 : asize Tryz.prog 392 = some 1 := by kernel_rfl
@[simp] theorem Tryz.info392 : Tryz.prog.info? 392 = some Tryz.t392 := by kernel_rfl
@[simp] theorem Tryz.tsize392 : Tryz.t392.size = 1 := by kernel_rfl
@[simp] theorem Tryz.tbytes392 : Tryz.t392.bytes = 8 := by kernel_rfl
@[simp] theorem Tryz.builder392 : builderTy Tryz.prog 392 = false := by kernel_rfl
@[simp] theorem Tryz.azero392 : azero Tryz.prog 392 = some (.nilfunc) := by kernel_rfl
@[simp] theorem Tryz.asize393 : asize Tryz.prog 393 = some 1 := by kernel_rfl
@[simp] theorem Tryz.info393 : Tryz.prog.info? 393 = some Tryz.t393 := by kernel_rfl
@[simp] theorem Tryz.tsize393 : Tryz.t393.size = 1 := by kernel_rfl
@[simp] theorem Tryz.tbytes393 : Tryz.t393.bytes = 4 := by kernel_rfl
@[simp] theorem Tryz.builder393 : builderTy Tryz.prog 393 = false := by kernel_rfl
@[simp] theorem Tryz.azero393 : azero Tryz.prog 393 = some (.int .i32 (0)) := by kernel_rfl
@[simp] theorem Tryz.asize394 : asize Tryz.prog 394 = some 1 := by kernel_rfl
@[simp] theorem Tryz.info394 : Tryz.prog.info? 394 = some Tryz.t394 := by kernel_rfl
@[simp] theorem Tryz.tsize394 : Tryz.t394.size = 1 := by kernel_rfl
@[simp] theorem Tryz.tbytes394 : Tryz.t394.bytes = 4 := by kernel_rfl
@[simp] theorem Tryz.builder394 : builderTy Tryz.prog 394 = false := by kernel_rfl
@[simp] theorem Tryz.azero394 : azero Tryz.prog 394 = some (.int .i32 (0)) := by kernel_rfl
@[simp] theorem Tryz.asize395 : asize Tryz.prog 395 = some 11 := by kernel_rfl
@[simp] theorem Tryz.info395 : Tryz.prog.info? 395 = some Tryz.t395 := by kernel_rfl
@[simp] theorem Tryz.tsize395 : Tryz.t395.size = 11 := by kernel_rfl
@[simp] theorem Tryz.tbytes395 : Tryz.t395.bytes = 48 := by kernel_rfl
@[simp] theorem Tryz.builder395 : builderTy Tryz.prog 395 = false := by kernel_rfl
@[simp] theorem Tryz.azero395 : azero Tryz.prog 395 = some (.agg [.int .u64 (0), .int .u64 (0), .int .u32 (0), .int .u8 (0), .int .u8 (0), .int .u8 (0), .int .u8 (0), .nilfunc, .nilptr, .int .i32 (0), .int .i32 (0)]) := by kernel_rfl
@[simp] theorem Tryz.asize396 : asize Tryz.prog 396 = some 11 := by kernel_rfl
@[simp] theorem Tryz.info396 : Tryz.prog.info? 396 = some Tryz.t396 := by kernel_rfl
@[simp] theorem Tryz.tsize396 : Tryz.t396.size = 11 := by kernel_rfl
@[simp] theorem Tryz.tbytes396 : Tryz.t396.bytes = 48 := by kernel_rfl
@[simp] theorem Tryz.builder396 : builderTy Tryz.prog 396 = false := by kernel_rfl
@[simp] theorem Tryz.azero396 : azero Tryz.prog 396 = some (.agg [.int .u64 (0), .int .u64 (0), .int .u32 (0), .int .u8 (0), .int .u8 (0), .int .u8 (0), .int .u8 (0), .nilfunc, .nilptr, .int .i32 (0), .int .i32 (0)]) := by kernel_rfl
end Go.Proofs

namespace Go.Proofs.YtpnjkagghmoamaaGreatDoor
open Go Go.Abs Go.Lex
set_option linter.unusedSimpArgs false
variable {G : Nat → Option AV}
theorem hasPrefixL (s p : List UInt8) (H : AHeap) : Does Tryz.prog G 155 [.str s, .str p] H fun r H' => r = .bool (p.isPrefixOf s) ∧ H' = H := by
  refine does_f Tryz.call155 Tryz.func155 rfl (by simp [Tryz.f155]) ?_
  by_cases h : p.length ≤ s.length
  · have h1 : (p.length : Int) ≤ s.length := by omega
    simp [h, h1]
    rw [Bool.eq_iff_iff, List.isPrefixOf_iff_prefix, List.prefix_iff_eq_take]
    simp
    exact eq_comm
  · have h1 : ¬ (p.length : Int) ≤ s.length := by omega
    have h2 : p.isPrefixOf s = false := by
      rw [Bool.eq_false_iff]
      intro e
      exact h (List.isPrefixOf_iff_prefix.1 e).length_le
    simp [h, h1, h2]
theorem hasPrefix (s p : List UInt8) (H : AHeap) : Does Tryz.prog G 95 [.str s, .str p] H fun r H' => r = .bool (p.isPrefixOf s) ∧ H' = H := by
  refine does_f Tryz.call95 Tryz.func95 rfl (by simp [Tryz.f95]) ?_
  simp
  refine does_use (hasPrefixL s p H) ?_
  rintro _ _ ⟨rfl, rfl⟩
  simp
theorem asciiContains (H : AHeap) (i : Nat) (cs : List AV) (b : UInt8) (v : Bool) (h : H.get i = some (.cells cs)) (hl : cs.length = 256) (hv : cs[b.toNat]? = some (.bool v)) :
    Does Tryz.prog G 252 [.ptr i 0, .int .u8 b.toNat] H fun r H' => r = .bool v ∧ H' = H := by
  have hb := b.toNat_lt
  have h1 : (b.toNat : Int) < 256 := by omega
  have h2 : b.toNat ≤ 256 := by omega
  refine does_f Tryz.call252 Tryz.func252 rfl (by simp [Tryz.f252]) ?_
  simp [h, hl, hv, h1, h2]
def asciiCells (l : List UInt8) : List AV := (List.range 256).map fun k => .bool (l.any fun b => b.toNat == k)
@[simp] theorem asciiCells_length (l : List UInt8) : (asciiCells l).length = 256 := by simp [asciiCells]
theorem asciiCells_get (l : List UInt8) (b : UInt8) : (asciiCells l)[b.toNat]? = some (.bool (l.contains b)) := by
  have hb := b.toNat_lt
  simp only [asciiCells, List.getElem?_map]
  rw [List.getElem?_range hb]
  simp only [Option.map_some, Option.some.injEq, AV.bool.injEq]
  rw [Bool.eq_iff_iff]
  simp only [List.any_eq_true, beq_iff_eq, List.contains_iff_mem]
  constructor
  · rintro ⟨x, hx, e⟩
    rw [← UInt8.toNat_inj.1 e]; exact hx
  · intro h; exact ⟨b, h, rfl⟩
theorem asciiCells_set (l : List UInt8) (b : UInt8) : (asciiCells l).set b.toNat (.bool true) = asciiCells (l ++ [b]) := by
  apply List.ext_getElem?
  intro k
  rw [List.getElem?_set]
  simp only [asciiCells, List.getElem?_map, List.length_map, List.length_range]
  by_cases hk : k < 256
  · rw [List.getElem?_range hk]
    by_cases e : b.toNat = k
    · subst e; simp [hk]
    · rw [if_neg e]
      simp [e]
  · have : (List.range 256)[k]? = none := List.getElem?_eq_none (by simp; omega)
    rw [this]
    split <;> simp
    omega
end Go.Proofs.YtpnjkagghmoamaaGreatDoor

namespace Go.Abs
open Go
theorem aws_loop {X : Ctx} {c : Code} {Q : Post} {T : Nat → AV} {H : AHeap} (I : Nat → (Nat → AV) → AHeap → Prop) (n : Nat) (h0 : I n T H)
    (round : ∀ n T H, I n T H → @AWf ⟨X⟩ ⟨c⟩ ⟨QThen (fun T' H' => ∃ m, m < n ∧ I m T' H') Q⟩ ⟨T⟩ H) : @AWs ⟨X⟩ ⟨.loop c⟩ ⟨Q⟩ ⟨T⟩ H :=
  aw_loop I n h0 fun n T H h => awf_of (round n T H h)
theorem aw_wf {P : Program} {G : Nat → Option AV} {N : Nat} {c : Code} {Q : Post} {T : Nat → AV} {H : AHeap} (h : H.Wf → (∀ t, (T t).idLt H.next = true) → AW P G N c Q T H) : AW P G N c Q T H := by
  intro E0 a w hG hs
  obtain ⟨⟨E, hx, hR, hT⟩, hd⟩ := hs
  exact h hR.wf (fun t => VRel.idLt hR.dom (hT.rel t)) E0 a w hG ⟨⟨E, hx, hR, hT⟩, hd⟩
theorem aws_loopw {X : Ctx} {c : Code} {Q : Post} {T : Nat → AV} {H : AHeap} (I : Nat → (Nat → AV) → AHeap → Prop) (n : Nat) (h0 : I n T H)
    (round : ∀ n T H, I n T H → H.Wf → (∀ t, (T t).idLt H.next = true) → @AWf ⟨X⟩ ⟨c⟩ ⟨QThen (fun T' H' => ∃ m, m < n ∧ I m T' H') Q⟩ ⟨T⟩ H) : @AWs ⟨X⟩ ⟨.loop c⟩ ⟨Q⟩ ⟨T⟩ H :=
  aw_loop I n h0 fun n T H h => aw_wf fun hw ht => awf_of (round n T H h hw ht)
theorem over_empty (H : AHeap) : (AHeap.empty 0).over H = H := by
  refine AHeap.ext' rfl fun i => ?_
  show (match H.get i with | some x => some x | none => none) = H.get i
  cases H.get i <;> rfl
theorem Does.closed {P : Program} {f : FuncId} {b : Bool} (h : Does P (fun _ => none) f [] (AHeap.empty 0) fun r _ => r = .bool b) (H : AHeap) : Does P (fun _ => none) f [] H fun r H' => r = .bool b ∧ H' = H := by
  refine ⟨fun E w vs hR hG hv => ?_⟩
  have hR' : Rel E ((AHeap.empty 0).over H) w := by rw [over_empty]; exact hR
  have ha : Rel (E.aside H w 0) (AHeap.empty 0) w := Rel.aside hR' (fun _ _ _ => Nat.zero_le _) (fun i x hi => by simp [AHeap.empty] at hi) (fun i x hi => by simp [AHeap.empty] at hi)
  cases hv
  refine (h.run _ w [] ha (fun _ _ h => by simp at h) .nil).mono ?_
  rintro v w' ⟨r, H', E', rfl, hx, hvr, hR2⟩
  cases hvr
  refine ⟨.bool b, H, E, ⟨rfl, rfl⟩, Ext.refl E, .bool b, ?_⟩
  refine ⟨hR2.os.trans hx.os, hR2.out.trans hx.out, fun B o hB => hR2.K _ _ (hx.K B o hB), fun B o hB => ?_, hR.KF, hR.dom, fun i x hi => ?_, hR.inj⟩
  · refine hR2.F _ _ ?_
    rw [hx.F]
    simp only [Env.aside, hB]
  · obtain ⟨p, ob, g1, g2, g3, g4, g5⟩ := hR.live i x hi
    refine ⟨p, ob, g1, g2, g3, hR2.F _ _ ?_, g5⟩
    rw [hx.F]
    simp only [Env.aside, g3]
    rw [if_pos ⟨i, x, p, hi, g1, rfl⟩]
    exact g4
end Go.Abs

namespace Go.Proofs.YtpnjkagghmoamaaGreatDoor
open Go Go.Abs Go.Lex
set_option linter.unusedSimpArgs false
variable {G : Nat → Option AV}
@[simp] theorem take_ascii (l : List UInt8) : List.take 256 (asciiCells l) = asciiCells l := by rw [List.take_of_length_le]; simp
@[simp] theorem zeroSet : azero Tryz.prog 310 = some (.agg (asciiCells [])) := by kernel_rfl
@[simp] theorem drop_ascii (l : List UInt8) : List.drop 256 (asciiCells l) = [] := by rw [List.drop_of_length_le]; simp
@[simp] theorem ascii_scalar (l : List UInt8) : (∀ x ∈ asciiCells l, x.scalar = true) = True := by
  simp only [eq_iff_iff, iff_true]
  intro x hx
  simp only [asciiCells, List.mem_map] at hx
  obtain ⟨k, _, rfl⟩ := hx
  rfl
theorem ascii_splice (l : List UInt8) (c : UInt8) : List.take c.toNat (asciiCells l) ++ AV.bool true :: List.drop (c.toNat + 1) (asciiCells l) = asciiCells (l ++ [c]) := by
  have hc := c.toNat_lt
  rw [← asciiCells_set, List.set_eq_take_append_cons_drop, if_pos (by rw [asciiCells_length]; omega)]
theorem makeSet (chars : List UInt8) (hc : ∀ b ∈ chars, b.toNat < 128) (hl : chars.length ≤ 1000000) (H : AHeap) : Does Tryz.prog G 212 [.str chars] H fun r H' => r = .tuple [.agg (asciiCells chars), .bool true] ∧ H' = H.push (.cells (asciiCells chars)) := by
  refine does_f Tryz.call212 Tryz.func212 rfl (by simp [Tryz.f212]) ?_
  simp
  refine aws_loop (fun m T' H' => ∃ a b, chars = a ++ b ∧ m = b.length ∧ T' 0 = .str chars ∧ T' 2 = .ptr H.next 0 ∧ T' 4 = .int .i64 a.length ∧ H' = H.push (.cells (asciiCells a))) chars.length ⟨[], chars, rfl, rfl, by simp⟩ ?_
  rintro m T H' ⟨a, b, rfl, rfl, h0, h2, h4, rfl⟩
  cases b with
  | nil => simp [h0, h2, h4]
  | cons c b =>
    have hlt : (a.length : Int) < a.length + (b.length + 1) := by omega
    have hc1 : c.toNat < 128 := hc c (by simp)
    have hc2 : ¬ (128 : Int) ≤ c.toNat := by omega
    have hc3 : (c.toNat : Int) < 256 := by omega
    have hc4 : c.toNat ≤ 255 := by omega
    have hw : IntKind.i64.wrap ((a.length : Int) + 1) = a.length + 1 := by
      simp only [List.length_append, List.length_cons] at hl
      exact IntWalk.i64_in _ (by omega)
    simp [h0, h2, h4, hlt, hc2, hc3, hc4, ascii_splice, hw]
    refine ⟨b.length, by omega, a ++ [c], b, by simp, rfl, ?_⟩
    simp
theorem trimASCII (s set : List UInt8) (p : UInt8 → Bool) (hp : ∀ b, set.contains b = p b) (i : Nat) (H : AHeap) (h : H.get i = some (.cells (asciiCells set))) : Does Tryz.prog G 213 [.str s, .ptr i 0] H fun r H' => r = .str (s.dropWhile p) ∧ H' = H := by
  refine does_f Tryz.call213 Tryz.func213 rfl (by simp [Tryz.f213]) ?_
  simp
  refine aws_loop (fun m T' H' => ∃ q : List UInt8, s.dropWhile p = q.dropWhile p ∧ m = q.length ∧ T' 0 = .str q ∧ T' 1 = .ptr i 0 ∧ H' = H) s.length ⟨s, rfl, rfl, by simp⟩ ?_
  rintro m T H' ⟨q, hq, rfl, h0, h1, rfl⟩
  rw [hq]
  cases q with
  | nil => simp [h0, h1]
  | cons b q =>
    have hl : (0 : Int) < q.length + 1 := by omega
    have hl2 : (1 : Int) ≤ q.length + 1 := by omega
    simp [h0, h1, hl]
    refine does_use (asciiContains H' i _ b _ h (by simp) (asciiCells_get set b)) ?_
    rintro _ _ ⟨rfl, rfl⟩
    rw [hp]
    cases hb : p b with
    | true =>
      simp [h0, h1, hb, hl, hl2]
    | false => simp [h0, h1, hb]
theorem trimLeft (s set : List UInt8) (p : UInt8 → Bool) (hp : ∀ b, set.contains b = p b) (hc : ∀ b ∈ set, b.toNat < 128) (hl : set.length ≤ 1000000) (h2 : 2 ≤ set.length) (H : AHeap) : Does Tryz.prog G 154 [.str s, .str set] H fun r H' => r = .str (s.dropWhile p) ∧ H' = H := by
  refine Does.forgot (R := fun r H' => r = .str (s.dropWhile p) ∧ ∀ j x, H.get j = some x → H'.get j = some x) ?_ ?_
  · refine Does.wf Tryz.call154 fun hw _ => ?_
    have old : ∀ j x, H.get j = some x → j ≠ H.next ∧ j ≠ H.next + 1 := fun j x hj => by have := next_lt hw hj; omega
    refine does_f Tryz.call154 Tryz.func154 rfl (by simp [Tryz.f154]) ?_
    have hne : set ≠ [] := fun e => by subst e; simp at h2
    have hn1 : ¬ (set.length : Int) = 1 := by omega
    cases hs : s with
    | nil => simp
    | cons b q =>
      rw [← hs]
      have hs1 : s.isEmpty = false := by rw [hs]; rfl
      have hs2 : set.isEmpty = false := by cases set <;> simp_all
      simp [hs1, hs2, hn1]
      refine does_use (makeSet set hc hl H) ?_
      rintro _ _ ⟨rfl, rfl⟩
      simp
      refine does_use (trimASCII s set p hp _ _ (by simp)) ?_
      rintro _ _ ⟨rfl, rfl⟩
      simp
      intro j x hj
      simp [hj, old j x hj]
  · rintro hw ha r H1 ⟨rfl, h⟩
    exact ⟨h, rfl, rfl, rfl⟩
theorem isIdx : IsIdx Tryz.prog 215 := ⟨⟨Tryz.f215, Tryz.func215, by kernel_rfl, by kernel_rfl, by kernel_rfl, by kernel_rfl⟩⟩
def idxB (s : List UInt8) (c : UInt8) : Int := match s.findIdx? (fun b => b == c) with
  | some i => i
  | none => -1
theorem idxB_eq (c : UInt8) : ∀ s : List UInt8, Go.Lib.indexByte s c = idxB s c
  | [] => rfl
  | b :: s => by
    rw [indexByte_cases, idxB_eq c s]
    unfold idxB
    rw [List.findIdx?_cons]
    by_cases h : b = c
    · subst h; simp
    · simp only [h, if_false, beq_iff_eq]
      cases hf : List.findIdx? (fun b => b == c) s with
      | none => simp
      | some i =>
        simp only [Option.map_some]
        rw [if_neg (by omega)]
        omega
theorem indexByteL (s : List UInt8) (c : UInt8) (H : AHeap) : Does Tryz.prog G 156 [.str s, .int .u8 c.toNat] H fun r H' => r = .int .i64 (idxB s c) ∧ H' = H := by
  refine does_f Tryz.call156 Tryz.func156 rfl (by simp [Tryz.f156]) ?_
  simp
  refine does_use (idx_does isIdx s c.toNat H) ?_
  rintro _ _ ⟨rfl, rfl⟩
  have e : ((c.toNat : Int).toNat).toUInt8 = c := by simp
  rw [e, idxB_eq]
  simp
theorem indexByte (s : List UInt8) (c : UInt8) (H : AHeap) : Does Tryz.prog G 96 [.str s, .int .u8 c.toNat] H fun r H' => r = .int .i64 (idxB s c) ∧ H' = H := by
  refine does_f Tryz.call96 Tryz.func96 rfl (by simp [Tryz.f96]) ?_
  simp
  refine does_use (indexByteL s c H) ?_
  rintro _ _ ⟨rfl, rfl⟩
  simp
theorem index1L (s : List UInt8) (c : UInt8) (H : AHeap) : Does Tryz.prog G 216 [.str s, .str [c]] H fun r H' => r = .int .i64 (idxB s c) ∧ H' = H := by
  refine does_f Tryz.call216 Tryz.func216 rfl (by simp [Tryz.f216]) ?_
  by_cases h : [c] = s
  · subst h
    simp [idxB]
  · have h1 : ([c] == s) = false := by simpa using h
    simp [h1]
    refine does_use (indexByteL s c H) ?_
    rintro _ _ ⟨rfl, rfl⟩
    simp
theorem contains1 (s : List UInt8) (c : UInt8) (H : AHeap) : Does Tryz.prog G 97 [.str s, .str [c]] H fun r H' => r = .bool (s.contains c) ∧ H' = H := by
  have hk : ∀ H : AHeap, Does Tryz.prog G 157 [.str s, .str [c]] H fun r H' => r = .int .i64 (idxB s c) ∧ H' = H := by
    intro H
    refine does_f Tryz.call157 Tryz.func157 rfl (by simp [Tryz.f157]) ?_
    simp
    refine does_use (index1L s c H) ?_
    rintro _ _ ⟨rfl, rfl⟩
    simp
  refine does_f Tryz.call97 Tryz.func97 rfl (by simp [Tryz.f97]) ?_
  simp
  refine does_use (hk H) ?_
  rintro _ _ ⟨rfl, rfl⟩
  simp
  unfold idxB
  cases hf : s.findIdx? (fun b => b == c) with
  | none =>
    rw [List.findIdx?_eq_none_iff] at hf
    have : c ∉ s := fun h => by have := hf c h; simp at this
    simp [this]
  | some i =>
    have h := List.findIdx?_eq_some_iff_getElem.1 hf
    obtain ⟨hi, h1, _⟩ := h
    have : c ∈ s := by
      have e : s[i] = c := by simpa using h1
      rw [← e]; exact List.getElem_mem hi
    simp [this]
end Go.Proofs.YtpnjkagghmoamaaGreatDoor

namespace Go.Proofs.YtpnjkagghmoamaaGreatDoor
open Go Go.Abs Go.Lex
set_option linter.unusedSimpArgs false
variable {G : Nat → Option AV}
theorem sliceIndex (l : List Bs) (s : Bs) (i c : Nat) (op : Bool) (H : AHeap) (hi : H.get i = some (.cells (l.map .str))) (hl : l.length ≤ 1000000) :
    Does Tryz.prog G 217 [.sl i 0 1 l.length c op, .str s] H fun r H' => (if l.contains s then ∃ k : Nat, r = .int .i64 k else r = .int .i64 (-1)) ∧ H' = H := by
  refine does_f Tryz.call217 Tryz.func217 rfl (by simp [Tryz.f217]) ?_
  simp
  refine aws_loop (fun m T' H' => ∃ a b, l = a ++ b ∧ m = b.length ∧ s ∉ a ∧ T' 0 = .sl i 0 1 l.length c op ∧ T' 1 = .str s ∧ T' 7 = .int .i64 l.length ∧ T' 8 = .int .i64 a.length ∧ H' = H) l.length ⟨[], l, rfl, rfl, by simp, by simp⟩ ?_
  rintro m T H' ⟨a, b, rfl, rfl, hn, h0, h1, h7, h8, rfl⟩
  simp only [List.length_append] at hl h0 h7
  cases b with
  | nil => simp [h0, h1, h7, h8, hn]
  | cons t b =>
    simp only [List.length_cons] at hl
    have hlt : (a.length : Int) < a.length + (b.length + 1) := by omega
    have hle : a.length ≤ a.length + (b.length + 1) := by omega
    have hw : IntKind.i64.wrap ((a.length : Int) + 1) = a.length + 1 := IntWalk.i64_in _ (by omega)
    have hd : List.drop a.length (List.map AV.str a) = [] := by rw [List.drop_of_length_le]; simp
    by_cases e : s = t
    · subst e
      simp [h0, h1, h7, h8, hi, hlt, hle, hw, hd]
      exact ⟨a.length, rfl⟩
    · have e1 : (s == t) = false := by simpa using e
      simp [h0, h1, h7, h8, hi, hlt, hle, hw, hd, e1]
      exact ⟨b.length, by omega, a ++ [t], b, by simp, rfl, by simp [hn, e], by simp⟩
theorem sliceContains (l : List Bs) (s : Bs) (i c : Nat) (op : Bool) (H : AHeap) (hi : H.get i = some (.cells (l.map .str))) (hl : l.length ≤ 1000000) :
    Does Tryz.prog G 158 [.sl i 0 1 l.length c op, .str s] H fun r H' => r = .bool (l.contains s) ∧ H' = H := by
  refine does_f Tryz.call158 Tryz.func158 rfl (by simp [Tryz.f158]) ?_
  simp
  refine does_use (sliceIndex l s i c op H hi hl) ?_
  rintro r _ ⟨hr, rfl⟩
  cases hc : l.contains s with
  | true =>
    rw [hc, if_pos rfl] at hr
    obtain ⟨k, rfl⟩ := hr
    simp
  | false =>
    rw [hc] at hr
    simp only [Bool.false_eq_true, if_false] at hr
    subst hr
    simp
set_option maxRecDepth 100000 in
theorem kept_does (s : Bs) (H : AHeap) : Does Tryz.prog G 98 [.str s] H fun r H' => r = .bool (kept s) ∧ H' = H := by
  refine Does.forgot (R := fun r H' => r = .bool (kept s) ∧ ∀ j x, H.get j = some x → H'.get j = some x) ?_ ?_
  · refine Does.wf Tryz.call98 fun hw _ => ?_
    have old : ∀ j x, H.get j = some x → j ≠ H.next := fun j x hj => by have := next_lt hw hj; omega
    refine does_f Tryz.call98 Tryz.func98 rfl (by simp [Tryz.f98]) ?_
    simp
    refine does_use (sliceContains keptWords s H.next 21 false (H.push (.cells (keptWords.map .str))) (by simp) (by decide)) ?_
    rintro _ _ ⟨rfl, rfl⟩
    simp [kept]
    intro j x hj
    simp [hj, old j x hj]
  · rintro hw ha r H1 ⟨rfl, h⟩
    exact ⟨h, rfl, rfl, rfl⟩
theorem while_does (s set : Bs) (p : UInt8 → Bool) (hp : ∀ b, set.contains b = p b) (hc : ∀ b ∈ set, b.toNat < 128) (hl : set.length ≤ 1000000) (h2 : 2 ≤ set.length) (hs : s.length ≤ 1000000) (H : AHeap) :
    Does Tryz.prog G 94 [.str s, .str set] H fun r H' => r = .int .i64 (s.takeWhile p).length ∧ H' = H := by
  refine does_f Tryz.call94 Tryz.func94 rfl (by simp [Tryz.f94]) ?_
  simp
  refine does_use (trimLeft s set p hp hc hl h2 H) ?_
  rintro _ _ ⟨rfl, rfl⟩
  have e : s.length = (s.takeWhile p).length + (s.dropWhile p).length := by rw [← List.length_append, List.takeWhile_append_dropWhile]
  have hw : IntKind.i64.wrap ((s.length : Int) - (s.dropWhile p).length) = (s.takeWhile p).length := by
    rw [IntWalk.i64_in _ (by omega)]; omega
  simp [hw]
set_option maxRecDepth 100000 in
theorem sign_does (s : Bs) (H : AHeap) : Does Tryz.prog G 100 [.str s] H fun r H' => (match signOf s with | some t => r = .tuple [.agg [.int .i64 4, .str t, .int .i64 0, .int .i64 0], .bool true] | none => r = .tuple [.agg [.int .i64 0, .str [], .int .i64 0, .int .i64 0], .bool false]) ∧ H' = H := by
  refine Does.forgot (R := fun r H' => (match signOf s with | some t => r = .tuple [.agg [.int .i64 4, .str t, .int .i64 0, .int .i64 0], .bool true] | none => r = .tuple [.agg [.int .i64 0, .str [], .int .i64 0, .int .i64 0], .bool false]) ∧ ∀ j x, H.get j = some x → H'.get j = some x) ?_ ?_
  · refine Does.wf Tryz.call100 fun hw _ => ?_
    have old : ∀ j x, H.get j = some x → j ≠ H.next ∧ j ≠ H.next + 1 := fun j x hj => by have := next_lt hw hj; omega
    have hkeep : ∀ x y, ∀ j z, H.get j = some z → ((H.push x).push y).get j = some z := fun x y j z hj => by simp [hj, old j z hj]
    refine does_f Tryz.call100 Tryz.func100 rfl (by simp [Tryz.f100]) ?_
    simp
    refine aws_loop (fun m T' H' => ∃ a b, signs = a ++ b ∧ m = b.length ∧ a.find? (fun x => x.isPrefixOf s) = none ∧ T' 0 = .str s ∧ T' 2 = .ptr H.next 0 ∧ T' 6 = .sl (H.next + 1) 0 1 16 16 false ∧ T' 7 = .int .i64 16 ∧ T' 8 = .int .i64 a.length ∧ T' 3 = .bool false ∧
      H' = (H.push (.cells [.int .i64 0, .str [], .int .i64 0, .int .i64 0])).push (.cells (signs.map .str))) 16 ⟨[], signs, rfl, rfl, rfl, by simp [signs]⟩ ?_
    rintro m T H' ⟨a, b, hab, rfl, hn, h0, h2, h6, h7, h8, h3, rfl⟩
    have hlen : a.length + b.length = 16 := by rw [← List.length_append, ← hab]; rfl
    cases b with
    | nil =>
      have ha : a.length = 16 := by simpa using hlen
      have hs : signOf s = none := by
        unfold signOf
        rw [hab, List.append_nil]; exact hn
      simp [h0, h2, h6, h7, h8, ha, hs]
      intro j x hj
      simp [hj, old j x hj]
    | cons t b =>
      simp only [List.length_cons] at hlen
      have hlt : (a.length : Int) < 16 := by omega
      have hlt2 : a.length ≤ 16 := by omega
      have hlt3 : a.length < 16 := by omega
      have hw1 : IntKind.i64.wrap ((a.length : Int) + 1) = a.length + 1 := IntWalk.i64_in _ (by omega)
      have hd : List.drop a.length (List.map AV.str signs) = .str t :: b.map .str := by
        rw [hab, List.map_append, List.drop_left' (by simp)]; rfl
      have hsl : signs.length = 16 := rfl
      simp [h0, h2, h6, h7, h8, hlt, hlt2, hlt3, hd, hsl]
      refine does_use (hasPrefix s t _) ?_
      rintro _ _ ⟨rfl, rfl⟩
      cases hp : t.isPrefixOf s with
      | true =>
        have hs : signOf s = some t := by
          unfold signOf
          rw [hab, List.find?_append, hn]
          simp [hp]
        simp [h0, h2, h6, h7, h8, hs]
        intro j x hj
        simp [hj, old j x hj]
      | false =>
        simp [h0, h2, h6, h7, h8, hw1]
        refine ⟨b.length, by omega, a ++ [t], b, by simp [hab], rfl, ?_, ?_⟩
        · rw [List.find?_eq_none] at hn
          intro x hx
          simp only [List.mem_append, List.mem_singleton] at hx
          rcases hx with hx | rfl
          · have := hn x hx
            rw [← List.isPrefixOf_iff_prefix]; simpa using this
          · rw [← List.isPrefixOf_iff_prefix, hp]; simp
        · simp [h3]
  · rintro hw ha r H1 ⟨hr, h⟩
    refine ⟨h, ?_, hr, rfl⟩
    cases hs : signOf s <;> rw [hs] at hr <;> subst hr <;> rfl
end Go.Proofs.YtpnjkagghmoamaaGreatDoor

namespace Go.Proofs.YtpnjkagghmoamaaGreatDoor
open Go Go.Abs Go.Lex
set_option linter.unusedSimpArgs false
variable {G : Nat → Option AV}
theorem drop_takeWhile (p : UInt8 → Bool) : ∀ s : Bs, s.drop (s.takeWhile p).length = s.dropWhile p
  | [] => rfl
  | b :: s => by
    rw [List.takeWhile_cons, List.dropWhile_cons]
    split
    · simpa using drop_takeWhile p s
    · rfl
theorem betw_line (s q : Bs) (h : s.dropWhile isBlank = 45 :: 45 :: q) : betw s = betw (q.dropWhile fun b => b != 10) := by
  rw [betw]
  split
  · rename_i q' h'
    rw [h] at h'
    simp only [List.cons.injEq, true_and] at h'
    rw [h']
  · rename_i h'
    exact absurd h (h' q)
theorem betw_word (s : Bs) (h : ([45, 45] : Bs).isPrefixOf (s.dropWhile isBlank) = false) : betw s = s.dropWhile isBlank := by
  rw [betw]
  split
  · rename_i q hq
    rw [hq] at h
    simp [List.isPrefixOf] at h
  · rfl
theorem betw_nil : betw [] = [] := betw_word [] rfl
@[simp] theorem take_drop_all {α : Type} (l : List α) (n : Nat) : List.take (l.length - n) (l.drop n) = l.drop n := by rw [List.take_of_length_le]; simp
theorem idxB_none {s : Bs} {c : UInt8} (h : s.findIdx? (fun b => b == c) = none) : s.dropWhile (fun b => b != c) = [] := by
  rw [List.findIdx?_eq_none_iff] at h
  induction s with
  | nil => rfl
  | cons b s ih =>
    rw [List.dropWhile_cons]
    have := h b (by simp)
    have e : (b != c) = true := by simp only [bne, this]; rfl
    rw [if_pos e]
    exact ih fun x hx => h x (by simp [hx])
theorem idxB_some {s : Bs} {c : UInt8} {i : Nat} (h : s.findIdx? (fun b => b == c) = some i) : s.dropWhile (fun b => b != c) = s.drop i ∧ i < s.length := by
  induction s generalizing i with
  | nil => simp at h
  | cons b s ih =>
    rw [List.findIdx?_cons] at h
    rw [List.dropWhile_cons]
    by_cases e : b = c
    · subst e
      simp at h
      subst h
      simp
    · have e1 : (b == c) = false := by simpa using e
      have e2 : (b != c) = true := by simp [bne, e1]
      rw [e1] at h
      simp only [Bool.false_eq_true, if_false, Option.map_eq_some_iff] at h
      obtain ⟨j, hj, rfl⟩ := h
      obtain ⟨h1, h2⟩ := ih hj
      rw [if_pos e2]
      exact ⟨by simpa using h1, by simp; omega⟩
theorem blankSet (b : UInt8) : ([32, 9, 10, 13] : Bs).contains b = isBlank b := by
  rw [Bool.eq_iff_iff]
  simp [isBlank, or_assoc]
theorem between_does (s : Bs) (hl : s.length ≤ 1000000) (H : AHeap) : Does Tryz.prog G 52 [.str s] H fun r H' => (∃ n : Nat, r = .int .i64 n ∧ n ≤ s.length ∧ s.drop n = betw s) ∧ H' = H := by
  refine does_f Tryz.call52 Tryz.func52 rfl (by simp [Tryz.f52]) ?_
  simp
  refine aws_loop (fun m T' H' => ∃ n : Nat, n ≤ s.length ∧ m = s.length - n ∧ betw (s.drop n) = betw s ∧ T' 0 = .str s ∧ T' 3 = .int .i64 n ∧ H' = H) s.length ⟨0, by omega, by omega, rfl, by simp⟩ ?_
  rintro m T H' ⟨n, hn, rfl, hb, h0, h3, rfl⟩
  have hn1 : (n : Int) ≤ s.length := by omega
  simp [h0, h3, hn, hn1]
  have hdl : (s.drop n).length = s.length - n := by simp
  refine does_use (while_does (s.drop n) _ isBlank blankSet (by decide) (by decide) (by decide) (by omega) _) ?_
  rintro _ _ ⟨rfl, rfl⟩
  have htl : ((s.drop n).takeWhile isBlank).length ≤ s.length - n := by
    rw [← hdl]; exact (List.takeWhile_prefix isBlank).length_le
  have hdd : s.drop (n + ((s.drop n).takeWhile isBlank).length) = (s.drop n).dropWhile isBlank := by
    rw [← List.drop_drop, drop_takeWhile]
  obtain ⟨k, hk⟩ : ∃ k, k = ((s.drop n).takeWhile isBlank).length := ⟨_, rfl⟩
  rw [← hk] at htl hdd ⊢
  obtain ⟨j, hj⟩ : ∃ j, j = n + k := ⟨_, rfl⟩
  have hw1 : IntKind.i64.wrap ((n : Int) + k) = (j : Int) := by rw [IntWalk.i64_in _ (by omega)]; omega
  have hk1 : (j : Int) ≤ s.length := by omega
  have hk2 : j ≤ s.length := by omega
  rw [← hj] at hdd
  simp [h0, h3, hw1, hk1, hk2]
  refine does_use (hasPrefix (s.drop j) [45, 45] _) ?_
  rintro _ _ ⟨rfl, rfl⟩
  cases hp : ([45, 45] : Bs).isPrefixOf (s.drop j) with
  | false =>
    simp [h0, h3]
    refine ⟨j, rfl, hk2, ?_⟩
    rw [← hb, betw_word _ (by rw [← hdd]; exact hp), hdd]
  | true =>
    simp [h0, h3, hk1, hk2]
    refine does_use (indexByte (s.drop j) 10 _) ?_
    rintro _ _ ⟨rfl, rfl⟩
    obtain ⟨q, hq⟩ : ∃ q, s.drop j = 45 :: 45 :: q := by
      rw [List.isPrefixOf_iff_prefix] at hp
      obtain ⟨t, ht⟩ := hp
      exact ⟨t, ht.symm⟩
    have hbq : betw s = betw ((s.drop j).dropWhile fun b => b != 10) := by
      rw [← hb, betw_line _ q (by rw [← hdd]; exact hq), hq]
      rfl
    unfold idxB
    cases hf : (s.drop j).findIdx? (fun b => b == 10) with
    | none =>
      simp [h0, h3]
      refine ⟨s.length, rfl, Nat.le_refl _, ?_⟩
      rw [hbq, idxB_none hf, betw_nil]; simp
    | some i =>
      obtain ⟨g1, g2⟩ := idxB_some hf
      have g3 : ¬ ((i : Int) < 0) := by omega
      have hi2 : 2 ≤ i := by
        rw [hq] at hf
        rw [List.findIdx?_cons, List.findIdx?_cons] at hf
        simp at hf
        omega
      simp only [List.length_drop] at g2
      have hw2 : IntKind.i64.wrap ((j : Int) + i) = ((j + i : Nat) : Int) := by rw [IntWalk.i64_in _ (by omega)]; omega
      simp [h0, h3, g3, hw2]
      refine ⟨s.length - (j + i), by omega, j + i, by omega, rfl, ?_, by omega⟩
      rw [hbq, g1, List.drop_drop]
end Go.Proofs.YtpnjkagghmoamaaGreatDoor

namespace Go.Proofs.YtpnjkagghmoamaaGreatDoor
open Go Go.Abs Go.Lex
set_option linter.unusedSimpArgs false
variable {G : Nat → Option AV}
theorem numVal_snoc (s : Bs) (b : UInt8) : numVal (s ++ [b]) = 10 * numVal s + (b.toNat - 48) := by simp [numVal]
theorem numVal_ge (a : Bs) : ∀ b : Bs, numVal a ≤ numVal (a ++ b) := by
  intro b
  induction b generalizing a with
  | nil => simp
  | cons c b ih =>
    have := ih (a ++ [c])
    rw [numVal_snoc, List.append_assoc] at this
    simp only [List.singleton_append] at this
    omega
theorem strCs_append' (a b : Bs) : strCs (a ++ b) = strCs a ++ strCs b := by simp [strCs]
theorem wrap_u64 (n : Int) (h0 : 0 ≤ n) (h1 : n < 18446744073709551616) : IntKind.u64.wrap n = n := by
  unfold IntKind.wrap
  simp only [IntKind.signed, IntKind.bits, Bool.false_and, Bool.false_eq_true, if_false]
  exact Int.emod_eq_of_lt h0 (by omega)
theorem wrap_u64' (n : Int) (h0 : 18446744073709551616 ≤ n) (h1 : n < 36893488147419103232) : IntKind.u64.wrap n = n - 18446744073709551616 := by
  unfold IntKind.wrap
  simp only [IntKind.signed, IntKind.bits, Bool.false_and, Bool.false_eq_true, if_false]
  omega
theorem wrap_u8 (n : Int) (h0 : 0 ≤ n) (h1 : n < 256) : IntKind.u8.wrap n = n := by
  unfold IntKind.wrap
  simp only [IntKind.signed, IntKind.bits, Bool.false_and, Bool.false_eq_true, if_false]
  exact Int.emod_eq_of_lt h0 (by omega)
@[simp] theorem concErr : Tryz.prog.concrete 350 = true := by kernel_rfl
@[simp] theorem concNum : Tryz.prog.concrete 353 = true := by kernel_rfl
def uintOf (s : Bs) : AV := if numVal s < 18446744073709551616 then .tuple [.int .u64 (numVal s), .niliface] else .tuple [.int .u64 18446744073709551615, .iface 350 (.int .i64 1)]
set_option maxRecDepth 100000 in
theorem parseUint (s : Bs) (hd : ∀ b ∈ s, isDigit b = true) (hs : s ≠ []) (hl : s.length ≤ 1000000) (H : AHeap) :
    Does Tryz.prog G 258 [.str s, .int .i64 10, .int .i64 64] H fun r H' => r = uintOf s ∧ H' = H := by
  refine Does.forgot (R := fun r H' => r = uintOf s ∧ ∀ j x, H.get j = some x → H'.get j = some x) ?_ ?_
  · refine Does.wf Tryz.call258 fun hw _ => ?_
    have old : ∀ j x, H.get j = some x → j ≠ H.next := fun j x hj => by have := next_lt hw hj; omega
    refine does_f Tryz.call258 Tryz.func258 rfl (by simp [Tryz.f258]) ?_
    have hs1 : s.isEmpty = false := by cases s <;> simp_all
    have e1 : IntKind.u64.wrap 64 = 64 := by decide
    have e2 : IntKind.u64.wrap (2 ^ min 64 IntKind.u64.bits) = 0 := by decide
    have e3 : IntKind.u64.wrap (-1) = 18446744073709551615 := by decide
    simp [hs1, e1, e2, e3]
    refine aws_loop (fun m T' H' => ∃ a b, s = a ++ b ∧ m = b.length ∧ numVal a < 18446744073709551616 ∧ T' 1 = .int .i64 10 ∧ T' 8 = .bool false ∧ T' 10 = .int .u64 1844674407370955162 ∧ T' 11 = .int .u64 18446744073709551615 ∧ T' 12 = .bool false ∧ T' 13 = .int .u64 (numVal a) ∧
      T' 99 = .sl H.next 0 1 s.length s.length true ∧ T' 100 = .int .i64 s.length ∧ T' 101 = .int .i64 a.length ∧ H' = H.push (.cells (strCs s))) s.length ⟨[], s, rfl, rfl, by decide, by simp [numVal, strCs]⟩ ?_
    rintro m T H' ⟨a, b, rfl, rfl, hv, h1, h8, h10, h11, h12, h13, h99, h100, h101, rfl⟩
    simp only [List.length_append] at hl h99 h100
    cases b with
    | nil =>
      simp [h1, h8, h10, h11, h12, h13, h99, h100, h101]
      refine ⟨?_, ?_⟩
      · simp [uintOf, hv]
      · intro j x hj
        simp [hj, old j x hj]
    | cons c b =>
      simp only [List.length_cons] at hl
      have hc := hd c (by simp)
      simp only [isDigit, Bool.and_eq_true, decide_eq_true_eq] at hc
      obtain ⟨hc1, hc2⟩ := hc
      obtain ⟨d, hdd⟩ : ∃ d, d = c.toNat - 48 := ⟨_, rfl⟩
      have hlt : (a.length : Int) < a.length + (b.length + 1) := by omega
      have hle : a.length ≤ a.length + (b.length + 1) := by omega
      have hw1 : IntKind.i64.wrap ((a.length : Int) + 1) = a.length + 1 := IntWalk.i64_in _ (by omega)
      have hdr : List.drop a.length (strCs (a ++ c :: b)) = .int .u8 c.toNat :: strCs b := by
        rw [strCs_append', List.drop_left' (by simp [strCs])]; rfl
      have hsl : (strCs (a ++ c :: b)).length = a.length + (b.length + 1) := by simp [strCs]
      have n1 : ¬ (c.toNat : Int) = 95 := by omega
      have n2 : (48 : Int) ≤ c.toNat := by omega
      have n3 : (c.toNat : Int) ≤ 57 := by omega
      have n4 : IntKind.u8.wrap ((c.toNat : Int) - 48) = d := by rw [wrap_u8 _ (by omega) (by omega)]; omega
      have n5 : IntKind.u8.wrap 10 = 10 := by decide
      have n6 : ¬ (10 : Int) ≤ d := by omega
      have n7 : IntKind.u64.wrap 10 = 10 := by decide
      have n8 : IntKind.u64.wrap (d : Int) = d := wrap_u64 _ (by omega) (by omega)
      have hn : numVal (a ++ [c]) = 10 * numVal a + d := by rw [numVal_snoc]; omega
      have hge := numVal_ge (a ++ [c]) b
      rw [List.append_assoc, List.singleton_append] at hge
      obtain ⟨v, hvv⟩ : ∃ v, v = numVal a := ⟨_, rfl⟩
      rw [← hvv] at hv h13 hn
      by_cases g1 : 1844674407370955162 ≤ v
      · have g1' : (1844674407370955162 : Int) ≤ v := by omega
        have hbig : ¬ numVal (a ++ c :: b) < 18446744073709551616 := by omega
        simp [h1, h8, h10, h11, h12, h13, h99, h100, h101, hlt, hle, hdr, hsl, n1, n2, n3, n4, n5, n6, n7, n8, g1']
        refine ⟨?_, ?_⟩
        · unfold uintOf; rw [if_neg hbig]
        · intro j x hj
          simp [hj, old j x hj]
      · have g1' : ¬ (1844674407370955162 : Int) ≤ v := by omega
        have m1 : IntKind.u64.wrap ((v : Int) * 10) = v * 10 := wrap_u64 _ (by omega) (by omega)
        by_cases g2 : 10 * v + d < 18446744073709551616
        · have m2 : IntKind.u64.wrap ((v : Int) * 10 + d) = v * 10 + d := wrap_u64 _ (by omega) (by omega)
          have m3 : ¬ ((v : Int) * 10 + d < v * 10) := by omega
          have m4 : ¬ ((18446744073709551615 : Int) < v * 10 + d) := by omega
          simp [h1, h8, h10, h11, h12, h13, h99, h100, h101, hlt, hle, hdr, hsl, n1, n2, n3, n4, n5, n6, n7, n8, g1', m1, m2, m3, m4, hw1]
          refine ⟨b.length, by omega, a ++ [c], b, by simp, rfl, by omega, ?_⟩
          simp [hn]
          omega
        · have m2 : IntKind.u64.wrap ((v : Int) * 10 + d) = v * 10 + d - 18446744073709551616 := wrap_u64' _ (by omega) (by omega)
          have m3 : ((v : Int) * 10 + d - 18446744073709551616 < v * 10) := by omega
          have hbig : ¬ numVal (a ++ c :: b) < 18446744073709551616 := by omega
          simp [h1, h8, h10, h11, h12, h13, h99, h100, h101, hlt, hle, hdr, hsl, n1, n2, n3, n4, n5, n6, n7, n8, g1', m1, m2, m3]
          refine ⟨?_, ?_⟩
          · unfold uintOf; rw [if_neg hbig]
          · intro j x hj
            simp [hj, old j x hj]
  · rintro hw ha r H1 ⟨rfl, h⟩
    refine ⟨h, ?_, rfl, rfl⟩
    unfold uintOf; split <;> rfl
end Go.Proofs.YtpnjkagghmoamaaGreatDoor

namespace Go.Proofs.YtpnjkagghmoamaaGreatDoor
open Go Go.Abs Go.Lex
set_option linter.unusedSimpArgs false
variable {G : Nat → Option AV}
theorem wrap_i64 (n : Int) (h0 : 0 ≤ n) (h1 : n < 9223372036854775808) : IntKind.i64.wrap n = n := IntWalk.i64_in _ (by omega)
def intOf (s : Bs) : AV := if numVal s < 9223372036854775808 then .tuple [.int .i64 (numVal s), .niliface] else .tuple [.int .i64 9223372036854775807, .iface 350 (.int .i64 1)]
set_option maxRecDepth 100000 in
theorem parseInt (s : Bs) (hd : ∀ b ∈ s, isDigit b = true) (hs : s ≠ []) (hl : s.length ≤ 1000000) (H : AHeap) :
    Does Tryz.prog G 218 [.str s, .int .i64 10, .int .i64 64] H fun r H' => r = intOf s ∧ H' = H := by
  refine does_f Tryz.call218 Tryz.func218 rfl (by simp [Tryz.f218]) ?_
  cases s with
  | nil => exact absurd rfl hs
  | cons c q =>
    have hc := hd c (by simp)
    simp only [isDigit, Bool.and_eq_true, decide_eq_true_eq] at hc
    have n1 : ¬ (c.toNat : Int) = 43 := by omega
    have n2 : ¬ (c.toNat : Int) = 45 := by omega
    have m1 : (0 : Int) < q.length + 1 := by omega
    simp [n1, n2, m1]
    refine does_use (parseUint (c :: q) hd hs hl H) ?_
    rintro _ _ ⟨rfl, rfl⟩
    have e1 : IntKind.u64.wrap 63 = 63 := by decide
    have e2 : IntKind.u64.wrap (2 ^ min 63 IntKind.u64.bits) = 9223372036854775808 := by decide
    have e3 : IntKind.u64.wrap 9223372036854775807 = 9223372036854775807 := by decide
    have e4 : IntKind.i64.wrap 9223372036854775807 = 9223372036854775807 := by decide
    have e5 : IntKind.i64.wrap 63 = 63 := by decide
    have e6 : Tryz.t350.comparable = true := by kernel_rfl
    obtain ⟨v, hv⟩ : ∃ v, v = numVal (c :: q) := ⟨_, rfl⟩
    unfold uintOf intOf
    rw [← hv]
    by_cases g1 : v < 9223372036854775808
    · have g2 : v < 18446744073709551616 := by omega
      have g3 : ¬ (9223372036854775808 : Int) ≤ v := by omega
      have g4 : IntKind.i64.wrap (v : Int) = v := wrap_i64 _ (by omega) (by omega)
      rw [if_pos g2, if_pos g1]
      simp [e1, e2, e3, e4, e5, e6, g3, g4]
    · rw [if_neg g1]
      by_cases g2 : v < 18446744073709551616
      · have g3 : (9223372036854775808 : Int) ≤ v := by omega
        rw [if_pos g2]
        simp [e1, e2, e3, e4, e5, e6, g3]
      · rw [if_neg g2]
        simp [e1, e2, e3, e4, e5, e6]
theorem mixedOrders : Tryz.prog.follows .mixedOrders = true := by kernel_rfl
def HasErr (G : Nat → Option AV) : Prop := ∃ t v, G 3 = some (.vptr [.iface t v])
set_option maxRecDepth 100000 in
theorem rangeError (s : Bs) (fn : Bs) (hl : s.length ≤ 1000000) (hG : HasErr G) (H : AHeap) : Does Tryz.prog G 260 [.str fn, .str s] H fun r H' => r = .ptr H.next 0 ∧ ∃ cs, H' = H.push (.cells cs) := by
  obtain ⟨et, ev, he⟩ := hG
  refine does_f Tryz.call260 Tryz.func260 rfl (by simp [Tryz.f260]) ?_
  simp
  refine aw_drawn [(3, 0), (3, 3)] ?_ ?_ ?_
  · exact mixedOrders
  · kernel_rfl
  intro es hes
  simp
  refine ⟨_, _, copy_does isCopy s (by omega) H, by simp, ?_⟩
  simp [he, rds, heapF]
  refine ⟨?_, _, rfl⟩
  subst hes
  exact ⟨by kernel_rfl, by kernel_rfl⟩
set_option maxRecDepth 100000 in
theorem toError (s : Bs) (fn : Bs) (hl : s.length ≤ 1000000) (hG : HasErr G) (H : AHeap) : Does Tryz.prog G 219 [.str fn, .str s, .int .i64 10, .int .i64 64, .iface 350 (.int .i64 1)] H fun r H' => r = .iface 353 (.ptr H.next 0) ∧ ∃ cs, H' = H.push (.cells cs) := by
  have e6 : Tryz.t350.comparable = true := by kernel_rfl
  refine does_f Tryz.call219 Tryz.func219 rfl (by simp [Tryz.f219]) ?_
  simp [e6]
  refine does_use (rangeError s fn hl hG H) ?_
  rintro _ _ ⟨rfl, cs, rfl⟩
  simp
  exact ⟨cs, rfl⟩
set_option maxRecDepth 100000 in
theorem parseInt' (s : Bs) (hd : ∀ b ∈ s, isDigit b = true) (hs : s ≠ []) (hl : s.length ≤ 1000000) (hG : HasErr G) (H : AHeap) :
    Does Tryz.prog G 159 [.str s, .int .i64 10, .int .i64 64] H fun r H' => (if numVal s < 9223372036854775808 then r = .tuple [.int .i64 (numVal s), .niliface] ∧ H' = H else r = .tuple [.int .i64 9223372036854775807, .iface 353 (.ptr H.next 0)] ∧ ∃ cs, H' = H.push (.cells cs)) := by
  refine does_f Tryz.call159 Tryz.func159 rfl (by simp [Tryz.f159]) ?_
  simp
  refine does_use (parseInt s hd hs hl H) ?_
  rintro _ _ ⟨rfl, rfl⟩
  unfold intOf
  by_cases h : numVal s < 9223372036854775808
  · rw [if_pos h]
    simp [h]
  · rw [if_neg h]
    simp [h]
    refine does_use (toError s _ hl hG _) ?_
    rintro _ _ ⟨rfl, cs, rfl⟩
    simp
    exact ⟨by omega, cs, rfl⟩
def numN (s : Bs) : Int := if numVal s < 9223372036854775808 then numVal s else 9223372036854775807
def numOk (s : Bs) : Bool := decide (numVal s < 9223372036854775808) && (decide (s.length = 1) || decide (s.head? ≠ some 48))
set_option maxRecDepth 100000 in
theorem number_does (s : Bs) (hd : ∀ b ∈ s, isDigit b = true) (hs : s ≠ []) (hl : s.length ≤ 1000000) (hG : HasErr G) (H : AHeap) :
    Does Tryz.prog G 99 [.str s] H fun r H' => r = .tuple [.agg [.int .i64 3, .str s, .int .i64 (numN s), .int .i64 0], .bool (numOk s)] ∧ H' = H := by
  refine Does.forgot (R := fun r H' => r = .tuple [.agg [.int .i64 3, .str s, .int .i64 (numN s), .int .i64 0], .bool (numOk s)] ∧ ∀ j x, H.get j = some x → H'.get j = some x) ?_ ?_
  · refine Does.wf Tryz.call99 fun hw _ => ?_
    have old : ∀ j x, H.get j = some x → j ≠ H.next ∧ j ≠ H.next + 1 := fun j x hj => by have := next_lt hw hj; omega
    refine does_f Tryz.call99 Tryz.func99 rfl (by simp [Tryz.f99]) ?_
    simp
    refine does_use (parseInt' s hd hs hl hG _) ?_
    rintro r H1 hr
    obtain ⟨c, q, rfl⟩ : ∃ c q, s = c :: q := by
      cases s with
      | nil => exact absurd rfl hs
      | cons c q => exact ⟨c, q, rfl⟩
    have h0 : (0 : Int) < q.length + 1 := by omega
    have hg : (if numVal (c :: q) < 9223372036854775808 then r = .tuple [.int .i64 (numVal (c :: q)), .niliface] else ∃ i, r = .tuple [.int .i64 9223372036854775807, .iface 353 (.ptr i 0)]) ∧ H1.get H.next = some (.cells [.int .i64 0, .str [], .int .i64 0, .int .i64 0]) ∧ ∀ j x, H.get j = some x → H1.get j = some x := by
      by_cases h : numVal (c :: q) < 9223372036854775808
      · rw [if_pos h] at hr ⊢
        obtain ⟨rfl, rfl⟩ := hr
        exact ⟨rfl, by simp, fun j x hj => by simp [hj, old j x hj]⟩
      · rw [if_neg h] at hr ⊢
        obtain ⟨rfl, cs, rfl⟩ := hr
        exact ⟨⟨_, rfl⟩, by simp, fun j x hj => by simp [hj, old j x hj]⟩
    clear hr
    obtain ⟨hr, hf, hk⟩ := hg
    have fin : ∀ j x, H.get j = some x → ∀ cs, (H1.set H.next (.cells cs)).get j = some x := fun j x hj cs => by
      simp only [AHeap.get_set]
      rw [if_neg (old j x hj).1]; exact hk j x hj
    by_cases h : numVal (c :: q) < 9223372036854775808
    · rw [if_pos h] at hr
      subst hr
      simp
      refine aw_drawn [] mixedOrders (by kernel_rfl) ?_
      intro es hes
      by_cases hq : q = []
      · subst hq
        simp [hf, rds]
        refine ⟨?_, ?_, fun j x hj => ?_⟩
        · subst hes
          exact ⟨by kernel_rfl, by kernel_rfl⟩
        · simp [numN, numOk, h]
        · simp [old j x hj, hk j x hj]
      · have hq0 : q.length ≠ 0 := by simpa using hq
        have hq1 : ¬ ((q.length : Int) + 1 = 1) := by omega
        have hq2 : ((c.toNat : Int) = 48) ↔ c = 48 := by
          constructor
          · intro e
            have e1 : c.toNat = (48 : UInt8).toNat := by simpa using (by omega : c.toNat = 48)
            exact UInt8.toNat_inj.1 e1
          · rintro rfl; rfl
        simp [hf, rds, hq, hq1, h0]
        refine ⟨?_, ?_, fun j x hj => ?_⟩
        · subst hes
          exact ⟨by kernel_rfl, by kernel_rfl⟩
        · have hq3 : ((c.toNat : Int) != 48) = !decide (c = 48) := by
            rw [Bool.eq_iff_iff]
            simp [hq2]
          simp [numN, numOk, h, hq, hq3]
        · simp [old j x hj, hk j x hj]
    · rw [if_neg h] at hr
      obtain ⟨i, rfl⟩ := hr
      simp
      refine aw_drawn [] mixedOrders (by kernel_rfl) ?_
      intro es hes
      simp [hf, rds]
      refine ⟨?_, ?_, fun j x hj => ?_⟩
      · subst hes
        exact ⟨by kernel_rfl, by kernel_rfl⟩
      · simp [numN, numOk, h]
      · simp [old j x hj, hk j x hj]
  · rintro hw ha r H1 ⟨rfl, h⟩
    exact ⟨h, rfl, rfl, rfl⟩
end Go.Proofs.YtpnjkagghmoamaaGreatDoor

namespace Go.Proofs.YtpnjkagghmoamaaGreatDoor
open Go Go.Abs Go.Lex
set_option linter.unusedSimpArgs false
variable {G : Nat → Option AV}
def lettersL : Bs := [97,98,99,100,101,102,103,104,105,106,107,108,109,110,111,112,113,114,115,116,117,118,119,120,121,122]
def digitsL : Bs := [48,49,50,51,52,53,54,55,56,57]
def namesL : Bs := [97,98,99,100,101,102,103,104,105,106,107,108,109,110,111,112,113,114,115,116,117,118,119,120,121,122,48,49,50,51,52,53,54,55,56,57,95]
theorem byAll (p q : UInt8 → Bool) (h : ∀ n : Fin 256, p (UInt8.ofNat n.val) = q (UInt8.ofNat n.val)) (b : UInt8) : p b = q b := by
  have := h ⟨b.toNat, b.toNat_lt⟩
  simpa using this
theorem letters_eq (b : UInt8) : lettersL.contains b = isLetter b := byAll _ _ (by decide +kernel) b
theorem digits_eq (b : UInt8) : digitsL.contains b = isDigit b := byAll _ _ (by decide +kernel) b
theorem names_eq (b : UInt8) : namesL.contains b = isNamec b := byAll _ _ (by decide +kernel) b
theorem take_takeWhile (p : UInt8 → Bool) (s : Bs) : s.take (s.takeWhile p).length = s.takeWhile p := by
  have := List.takeWhile_prefix p (l := s)
  rw [List.prefix_iff_eq_take] at this
  exact this.symm
def wdCells (w : Wd) (i : Nat) : List AV := [.int .i64 w.kind, .str w.text, .int .i64 w.n, .int .i64 i]
def WordIs (s : Bs) (r : AV) : Prop := match wordS s with
  | some w => r = .tuple [.agg (wdCells w 0), .bool true]
  | none => ∃ k t n, r = .tuple [.agg [.int .i64 k, .str t, .int .i64 n, .int .i64 0], .bool false]
set_option maxRecDepth 100000 in
theorem word_does (c : UInt8) (q : Bs) (hl : (c :: q).length ≤ 1000000) (hG : HasErr G) (H : AHeap) : Does Tryz.prog G 53 [.str (c :: q)] H fun r H' => WordIs (c :: q) r ∧ H' = H := by
  refine Does.forgot (R := fun r H' => WordIs (c :: q) r ∧ ∀ j x, H.get j = some x → H'.get j = some x) ?_ ?_
  · refine Does.wf Tryz.call53 fun hw _ => ?_
    have old : ∀ j x, H.get j = some x → j ≠ H.next ∧ j ≠ H.next + 1 := fun j x hj => by have := next_lt hw hj; omega
    refine does_f Tryz.call53 Tryz.func53 rfl (by simp [Tryz.f53]) ?_
    have m1 : (1 : Int) ≤ q.length + 1 := by omega
    simp [m1]
    refine does_use (contains1 lettersL c _) ?_
    rintro _ _ ⟨rfl, rfl⟩
    rw [letters_eq]
    cases hL : isLetter c with
    | true =>
      simp
      refine does_use (while_does (c :: q) namesL isNamec names_eq (by decide) (by decide) (by decide) hl _) ?_
      rintro _ _ ⟨rfl, rfl⟩
      have ht := take_takeWhile isNamec (c :: q)
      have hle : ((c :: q).takeWhile isNamec).length ≤ (c :: q).length := (List.takeWhile_prefix isNamec).length_le
      obtain ⟨t, htt⟩ : ∃ t, t = (c :: q).takeWhile isNamec := ⟨_, rfl⟩
      rw [← htt] at ht hle ⊢
      simp only [List.length_cons] at hle
      have hle' : (t.length : Int) ≤ q.length + 1 := by omega
      simp [hle, hle', ht]
      refine does_use (kept_does t _) ?_
      rintro _ _ ⟨rfl, rfl⟩
      cases hk : kept t with
      | true =>
        simp
        refine ⟨?_, ?_⟩
        · simp [WordIs, wordS, hL, ← htt, hk, wdCells]
        · intro j x hj
          simp [hj, old j x hj]
      | false =>
        simp
        refine ⟨?_, ?_⟩
        · by_cases h24 : t.length ≤ 24
          · have : (t.length : Int) ≤ 24 := by omega
            simp [WordIs, wordS, hL, ← htt, hk, wdCells, h24, this]
          · have : ¬ (t.length : Int) ≤ 24 := by omega
            simp [WordIs, wordS, hL, ← htt, hk, wdCells, h24, this]
        · intro j x hj
          simp [hj, old j x hj]
    | false =>
      simp
      refine does_use (contains1 digitsL c _) ?_
      rintro _ _ ⟨rfl, rfl⟩
      rw [digits_eq]
      cases hD : isDigit c with
      | true =>
        simp
        refine does_use (while_does (c :: q) digitsL isDigit digits_eq (by decide) (by decide) (by decide) hl _) ?_
        rintro _ _ ⟨rfl, rfl⟩
        have ht := take_takeWhile isDigit (c :: q)
        have hle : ((c :: q).takeWhile isDigit).length ≤ (c :: q).length := (List.takeWhile_prefix isDigit).length_le
        have hall : ∀ b ∈ (c :: q).takeWhile isDigit, isDigit b = true := fun b hb => List.all_eq_true.1 (List.all_takeWhile) b hb
        have hcons : (c :: q).takeWhile isDigit = c :: q.takeWhile isDigit := by rw [List.takeWhile_cons, if_pos hD]
        obtain ⟨t, htt⟩ : ∃ t, t = (c :: q).takeWhile isDigit := ⟨_, rfl⟩
        rw [← htt] at ht hle hall hcons ⊢
        simp only [List.length_cons] at hle hl
        have hle' : (t.length : Int) ≤ q.length + 1 := by omega
        simp [hle, hle', ht]
        refine does_use (number_does t hall (by rw [hcons]; simp) (by omega) hG _) ?_
        rintro _ _ ⟨rfl, rfl⟩
        simp
        refine ⟨?_, ?_⟩
        · have hh : t.head? = some c := by rw [hcons]; rfl
          unfold WordIs wordS numOk numN
          simp only [hL, hD, ← htt, hh]
          by_cases g1 : numVal t < 9223372036854775808
          · by_cases g2 : t.length = 1 ∨ c ≠ 48
            · rcases g2 with g2 | g2 <;> simp [g1, g2, wdCells]
            · simp only [not_or] at g2
              simp [g1, g2.1, Decidable.not_not.1 g2.2]
          · simp [g1]
        · intro j x hj
          simp [hj, old j x hj]
      | false =>
        simp
        refine does_use (sign_does (c :: q) _) ?_
        rintro r _ ⟨hr, rfl⟩
        cases hs : signOf (c :: q) with
        | some t =>
          rw [hs] at hr
          simp only at hr
          subst hr
          simp
          refine ⟨?_, ?_⟩
          · simp [WordIs, wordS, hL, hD, hs, wdCells]
          · intro j x hj
            simp [hj, old j x hj]
        | none =>
          rw [hs] at hr
          simp only at hr
          subst hr
          simp
          refine ⟨?_, ?_⟩
          · simp [WordIs, wordS, hL, hD, hs, wdCells]
          · intro j x hj
            simp [hj, old j x hj]
  · rintro hw ha r H1 ⟨hr, h⟩
    refine ⟨h, ?_, hr, rfl⟩
    unfold WordIs at hr
    split at hr
    · subst hr; rfl
    · obtain ⟨k, t, n, rfl⟩ := hr; rfl
end Go.Proofs.YtpnjkagghmoamaaGreatDoor

namespace Go.Proofs.YtpnjkagghmoamaaGreatDoor
open Go Go.Abs Go.Lex
set_option linter.unusedSimpArgs false
variable {G : Nat → Option AV}
def flatW : List (Nat × Wd) → List AV
  | [] => []
  | (i, w) :: l => wdCells w i ++ flatW l
theorem flatW_append (a b : List (Nat × Wd)) : flatW (a ++ b) = flatW a ++ flatW b := by
  induction a with
  | nil => rfl
  | cons x a ih => obtain ⟨i, w⟩ := x; simp [flatW, ih]
@[simp] theorem wdCells_length (w : Wd) (i : Nat) : (wdCells w i).length = 4 := rfl
@[simp] theorem flatW_length (l : List (Nat × Wd)) : (flatW l).length = l.length * 4 := by
  induction l with
  | nil => rfl
  | cons x l ih => obtain ⟨i, w⟩ := x; simp [flatW, ih]; omega
def cutAns (t : Bs) : AV := if 16384 < t.length then .tuple [.nilsl, .agg [.int .i64 2, .int .i64 t.length]] else match cutS t.length t with
  | .ok l => .tuple [.vsl (flatW l ++ [.int .i64 0, .str [], .int .i64 0, .int .i64 t.length]) (l.length + 1), .agg [.int .i64 0, .int .i64 0]]
  | .error e => .tuple [.nilsl, .agg [.int .i64 7, .int .i64 e]]
def Wrds (H : AHeap) (lo : Nat) (x : AV) (ws : List (Nat × Wd)) : Prop := (x = .nilsl ∧ ws = []) ∨ ∃ b, x = .sl b 0 4 ws.length ws.length true ∧ lo ≤ b ∧ H.get b = some (.cells (flatW ws))
def CutR (H : AHeap) (t : Bs) (r : AV) (H1 : AHeap) : Prop := (∀ j x, H.get j = some x → H1.get j = some x) ∧
  (if 16384 < t.length then r = .tuple [.nilsl, .agg [.int .i64 2, .int .i64 t.length]] else match cutS t.length t with
  | .ok l => ∃ b, H.next ≤ b ∧ r = .tuple [.sl b 0 4 (l.length + 1) (l.length + 1) true, .agg [.int .i64 0, .int .i64 0]] ∧ H1.get b = some (.cells (flatW l ++ [.int .i64 0, .str [], .int .i64 0, .int .i64 t.length]))
  | .error e => r = .tuple [.nilsl, .agg [.int .i64 7, .int .i64 e]])
theorem CutR.okEnd {H : AHeap} {t : Bs} {ws : List (Nat × Wd)} {H2 : AHeap} {b : Nat} (hL : ¬ 16384 < t.length) (hc : cutS t.length t = .ok ws) (hb : H.next ≤ b)
    (hg : H2.get b = some (.cells (flatW ws ++ [.int .i64 0, .str [], .int .i64 0, .int .i64 t.length]))) (hk : ∀ j x, H.get j = some x → H2.get j = some x) :
    CutR H t (.tuple [.sl b 0 4 (ws.length + 1) (ws.length + 1) true, .agg [.int .i64 0, .int .i64 0]]) H2 := by
  refine ⟨hk, ?_⟩
  rw [if_neg hL, hc]
  exact ⟨b, hb, rfl, hg⟩
theorem CutR.badEnd {H : AHeap} {t : Bs} {e : Nat} {H2 : AHeap} (hL : ¬ 16384 < t.length) (hc : cutS t.length t = .error e) (hk : ∀ j x, H.get j = some x → H2.get j = some x) :
    CutR H t (.tuple [.nilsl, .agg [.int .i64 7, .int .i64 e]]) H2 := by
  refine ⟨hk, ?_⟩
  rw [if_neg hL, hc]
set_option maxRecDepth 100000 in
theorem cut_live (t : Bs) (hG : HasErr G) (H : AHeap) (hbig : t.length < 9223372036854775808) : Does Tryz.prog G 23 [.str t] H (CutR H t) := by
  refine Does.wf Tryz.call23 fun hw _ => ?_
  have old : ∀ j x, H.get j = some x → j < H.next := fun j x hj => next_lt hw hj
  refine does_f Tryz.call23 Tryz.func23 rfl (by simp [Tryz.f23]) ?_
  by_cases hL : 16384 < t.length
  · have hL' : (16384 : Int) < t.length := by omega
    simp [hL']
    refine ⟨fun j x hj => ?_, by simp [hL]⟩
    have := old j x hj
    have h1 : j ≠ H.next := by omega
    simp [hj, h1]
  · have hL' : ¬ (16384 : Int) < t.length := by omega
    simp [hL']
    refine does_use (between_does t (by omega) _) ?_
    rintro _ _ ⟨⟨n, rfl, hn, hbn⟩, rfl⟩
    simp
    refine aws_loopw (fun m T' H' => ∃ (ws : List (Nat × Wd)) (rest : Bs) (n : Nat), cutS t.length t = aheadW ws (cutS t.length rest) ∧ n ≤ t.length ∧ t.drop n = betw rest ∧ m = t.length - n ∧ ws.length ≤ n ∧
      T' 0 = .str t ∧ T' 3 = .ptr H.next 0 ∧ T' 5 = .int .i64 n ∧ Wrds H' (H.next + 1) (T' 4) ws ∧ H'.get H.next = some (.cells [.int .i64 0, .int .i64 0]) ∧ (∀ j x, H.get j = some x → H'.get j = some x)) (t.length - n) ?_ ?_
    · refine ⟨[], t, n, ?_, hn, hbn, rfl, by simp, by simp, by simp, by simp, .inl ⟨by simp, rfl⟩, by simp, fun j x hj => ?_⟩
      · cases cutS t.length t <;> rfl
      · have := old j x hj
        have h1 : j ≠ H.next := by omega
        simp [hj, h1]
    rintro m T H1 ⟨ws, rest, n, hcut, hn, hbn, rfl, hws, h0, h3, h5, h4, hf, hkeep⟩ hw1 _
    have oldn : ∀ j x, H1.get j = some x → j < H1.next := fun j x hj => next_lt hw1 hj
    have hfn := oldn _ _ hf
    have hne : H.next ≠ H1.next := by omega
    have hne2 : H.next ≠ H1.next + 1 := by omega
    have hne3 : H.next ≠ H1.next + 1 + 1 := by omega
    have hgrow : ¬ (ws.length + 1 ≤ ws.length) := by omega
    have hws' : ws.length ≤ 16384 := by omega
    by_cases hend : n = t.length
    · subst hend
      have hnil : betw rest = [] := by rw [← hbn]; simp
      have hc : cutS t.length t = .ok ws := by rw [hcut, cutS_end hnil]; simp [aheadW]
      have hfin : ∀ j x, H.get j = some x → H1.get j = some x ∧ j ≠ H.next ∧ j ≠ H1.next ∧ j ≠ H1.next + 1 := fun j x hj => by
        have := old j x hj
        have := oldn j x (hkeep j x hj)
        exact ⟨hkeep j x hj, by omega, by omega, by omega⟩
      rcases h4 with ⟨h4, rfl⟩ | ⟨b, h4, hlo, hb⟩
      · simp [h0, h3, h4, h5, hf, hne, hne2, hne3]
        refine CutR.okEnd hL hc (by omega) (by simp [flatW, Ne.symm hne2]) fun j x hj => ?_
        obtain ⟨k1, k2, k3, k4⟩ := hfin j x hj
        simp [k1, k2, k3, k4]
      · have hbn' := oldn _ _ hb
        have hb1 : b ≠ H1.next := by omega
        have hb2 : H.next ≠ b := by omega
        have hl1 : (ws.length + 1) * 40 ≤ 140737488355328 := by omega
        have hl2 : ws.length ≤ 4611686018427387903 := by omega
        simp [h0, h3, h4, h5, hf, hne, hne2, hne3, hb, hb1, hb2, hgrow, hl1, hl2]
        have htk : List.take (ws.length * 4) (flatW ws) = flatW ws := by rw [List.take_of_length_le]; simp
        rw [htk]
        refine CutR.okEnd hL hc (by omega) (by simp [Ne.symm hne2]) fun j x hj => ?_
        obtain ⟨k1, k2, k3, k4⟩ := hfin j x hj
        have := old j x hj
        have k5 : j ≠ b := by omega
        simp [k1, k2, k3, k4, k5]
    · have hlt : (n : Int) < t.length := by omega
      have hn' : (n : Int) ≤ t.length := by omega
      obtain ⟨c, q, hcq⟩ : ∃ c q, t.drop n = c :: q := by
        cases h : t.drop n with
        | nil => rw [List.drop_eq_nil_iff] at h; omega
        | cons c q => exact ⟨c, q, rfl⟩
      have hlen : (c :: q).length = t.length - n := by rw [← hcq]; simp
      rw [hcq] at hbn
      have htk0 : List.take (t.length - n) (c :: q) = c :: q := by rw [List.take_of_length_le]; omega
      simp [h0, h3, h4, h5, hf, hlt, hn, hn', hcq, htk0]
      refine does_use (word_does c q (by omega) hG _) ?_
      rintro r H2 ⟨hr, e⟩
      subst e
      have hkeep2 : ∀ j x, H.get j = some x → H2.get j = some x ∧ j ≠ H.next ∧ j ≠ H2.next ∧ j ≠ H2.next + 1 ∧ j ≠ H2.next + 1 + 1 := fun j x hj => by
        have := old j x hj
        have := oldn j x (hkeep j x hj)
        exact ⟨hkeep j x hj, by omega, by omega, by omega, by omega⟩
      unfold WordIs at hr
      cases hwd : wordS (c :: q) with
      | none =>
        rw [hwd] at hr
        simp only at hr
        obtain ⟨k, tx, nn, rfl⟩ := hr
        have hc : cutS t.length t = .error n := by
          rw [hcut, cutS_bad hbn.symm hwd, hlen]
          simp only [aheadW]
          congr 1
          omega
        simp [h0, h3, h4, h5, hf, hne]
        refine CutR.badEnd hL hc fun j x hj => ?_
        obtain ⟨k1, k2, k3, k4, k5⟩ := hkeep2 j x hj
        simp [k1, k2, k3]
      | some w =>
        rw [hwd] at hr
        simp only at hr
        subst hr
        obtain ⟨hpre, htne⟩ := wordS_text hwd
        have hwl : w.text.length ≤ (c :: q).length := hpre.length_le
        have hwl0 : w.text.length ≠ 0 := by simpa using htne
        rw [hlen] at hwl
        have hw1 : IntKind.i64.wrap ((n : Int) + w.text.length) = ((n + w.text.length : Nat) : Int) := by rw [IntWalk.i64_in _ (by omega)]; omega
        have hn2 : ((n + w.text.length : Nat) : Int) ≤ t.length := by omega
        have hn3 : n + w.text.length ≤ t.length := by omega
        have hrest : t.drop (n + w.text.length) = (c :: q).drop w.text.length := by rw [← List.drop_drop, hcq]
        obtain ⟨n2, hn2'⟩ : ∃ n2, n2 = n + w.text.length := ⟨_, rfl⟩
        rw [← hn2'] at hw1 hn2 hn3 hrest
        have hcut2 : cutS t.length t = aheadW (ws ++ [(n, w)]) (cutS t.length (t.drop n2)) := by
          rw [hcut, cutS_word hbn.symm hwd, hrest, hlen]
          have e : t.length - (t.length - n) = n := by omega
          rw [e]
          cases cutS t.length ((c :: q).drop w.text.length) <;> simp [aheadW]
        rcases h4 with ⟨h4, rfl⟩ | ⟨b, h4, hlo, hb⟩
        · simp [h0, h3, h4, h5, hf, hne, hne2, hne3, wdCells, hw1, hn2, hn3]
          refine does_use (between_does (t.drop n2) (by simp; omega) _) ?_
          rintro _ _ ⟨⟨k, rfl, hk, hk2⟩, rfl⟩
          simp only [List.length_drop] at hk
          have hw2 : IntKind.i64.wrap ((n2 : Int) + k) = ((n2 + k : Nat) : Int) := by rw [IntWalk.i64_in _ (by omega)]; omega
          simp [h0, h3, h4, h5, hf, hne, hne2, hne3, hw2]
          refine ⟨t.length - (n2 + k), by omega, [(n, w)], t.drop n2, by simpa using hcut2, n2 + k, by omega, by rw [← List.drop_drop]; exact hk2, rfl, by simp; omega, by omega, .inr ⟨H2.next + 1 + 1, rfl, by omega, by simp [flatW, wdCells]⟩, fun j x hj => ?_⟩
          obtain ⟨k1, k2, k3, k4, k5⟩ := hkeep2 j x hj
          simp [k1, k3, k4, k5]
        · have hbn' := oldn _ _ hb
          have hb1 : b ≠ H2.next := by omega
          have hb2 : H.next ≠ b := by omega
          have hb3 : b ≠ H2.next + 1 := by omega
          have hl1 : (ws.length + 1) * 40 ≤ 140737488355328 := by omega
          have hl2 : ws.length ≤ 4611686018427387903 := by omega
          have hb4 : H2.next ≠ b := Ne.symm hb1
          have hb5 : H2.next ≠ H2.next + 1 + 1 := by omega
          have htk : List.take (ws.length * 4) (flatW ws) = flatW ws := by rw [List.take_of_length_le]; simp
          simp [h0, h3, h4, h5, hf, hne, hne2, hne3, wdCells, hw1, hn2, hn3, hb, hb1, hb2, hb3, hb4, hb5, hgrow, hl1, hl2, htk]
          refine does_use (between_does (t.drop n2) (by simp; omega) _) ?_
          rintro _ _ ⟨⟨k, rfl, hk, hk2⟩, rfl⟩
          simp only [List.length_drop] at hk
          have hw2 : IntKind.i64.wrap ((n2 : Int) + k) = ((n2 + k : Nat) : Int) := by rw [IntWalk.i64_in _ (by omega)]; omega
          simp [h0, h3, h4, h5, hf, hne, hne2, hne3, hw2]
          refine ⟨t.length - (n2 + k), by omega, ws ++ [(n, w)], t.drop n2, hcut2, n2 + k, by omega, by rw [← List.drop_drop]; exact hk2, rfl, by simp; omega, by omega, .inr ⟨H2.next + 1 + 1, by simp, by omega, by simp [flatW_append, flatW, wdCells]⟩, hb2, fun j x hj => ?_⟩
          obtain ⟨k1, k2, k3, k4, k5⟩ := hkeep2 j x hj
          have := old j x hj
          have k6 : j ≠ b := by omega
          simp [k1, k3, k4, k5, k6]
theorem flatW_lt (n : Nat) : ∀ l : List (Nat × Wd), AV.allLt n (flatW l) = true
  | [] => rfl
  | (i, w) :: l => by simp [flatW, wdCells, AV.allLt, AV.idLt, flatW_lt n l]
theorem allLt_app (n : Nat) (a b : List AV) : AV.allLt n (a ++ b) = (AV.allLt n a && AV.allLt n b) := AV.allLt_append a b
theorem cut_does (t : Bs) (hG : HasErr G) (H : AHeap) (hbig : t.length < 9223372036854775808) : Does Tryz.prog G 23 [.str t] H fun r H' => r = cutAns t ∧ H' = H := by
  by_cases hL : 16384 < t.length
  · refine Does.forgot (cut_live t hG H hbig) ?_
    rintro hw ha r H1 ⟨hk, hr⟩
    rw [if_pos hL] at hr
    subst hr
    exact ⟨hk, rfl, by simp [cutAns, hL], rfl⟩
  · cases hc : cutS t.length t with
    | error e =>
      refine Does.forgot (cut_live t hG H hbig) ?_
      rintro hw ha r H1 ⟨hk, hr⟩
      rw [if_neg hL, hc] at hr
      simp only at hr
      subst hr
      exact ⟨hk, rfl, by simp [cutAns, hL, hc], rfl⟩
    | ok l =>
      refine Does.frozen (cut_live t hG H hbig) ?_
      rintro hw ha r H1 ⟨hk, hr⟩
      rw [if_neg hL, hc] at hr
      obtain ⟨b, hb, rfl, hg⟩ := hr
      refine ⟨b, _, hb, hg, hk, ?_, ?_, rfl⟩
      · simp [AV.frz, AV.frzs, AV.idLt, AV.allLt]
        rw [List.take_of_length_le (by simp; omega)]
        simp [allLt_app, flatW_lt, AV.allLt, AV.idLt]
      · simp [AV.frz, AV.frzs, cutAns, hL, hc]
        rw [List.take_of_length_le (by simp; omega)]
end Go.Proofs.YtpnjkagghmoamaaGreatDoor

namespace Go.Proofs.YtpnjkagghmoamaaGreatDoor
open Go Go.Abs Go.Lex
set_option linter.unusedSimpArgs false
variable {G : Nat → Option AV}
mutual
def exCells : Syn.Ex → List AV
  | .mk op nm n p ks => [.str op, .str nm, .int .i64 n, .int .i64 p, if ks.isEmpty then .nilsl else .vsl (exsCells ks) ks.length]
def exsCells : List Syn.Ex → List AV
  | [] => []
  | e :: l => exCells e ++ exsCells l
end
def stCells (W : Syn.Ws) (s : Syn.St) : List AV := [.vsl (flatW W) W.length, .int .i64 s.i, .int .i64 s.names, .int .i64 s.parts, .int .i64 s.err, .int .i64 s.pos]
def PAt (H : AHeap) (p : Nat) (W : Syn.Ws) (s : Syn.St) : Prop := H.get p = some (.cells (stCells W s))
structure WsOk (W : Syn.Ws) : Prop where
  small : W.length ≤ 20000
  last : ∀ i, i < W.length → (W.getD i (0, ⟨0, [], 0⟩)).2.kind ≠ 0 → i + 1 < W.length
theorem flatW_at : ∀ (L : List (Nat × Wd)) (i : Nat), i < L.length → (flatW L).drop (i * 4) = wdCells (L.getD i (0, ⟨0, [], 0⟩)).2 (L.getD i (0, ⟨0, [], 0⟩)).1 ++ flatW (L.drop (i + 1))
  | [], i, h => by simp at h
  | (a, b) :: L, 0, _ => by simp [flatW]
  | (a, b) :: L, i + 1, h => by
    have := flatW_at L i (by simpa using h)
    rw [Nat.succ_mul]
    simp only [flatW, List.drop_succ_cons, List.getD_cons_succ]
    rw [← this, Nat.add_comm (i * 4) 4, ← List.drop_drop]
    rw [List.drop_left' (by simp)]
theorem set_same {H : AHeap} {p : Nat} {x : AObj} (h : H.get p = some x) : H.set p x = H := by
  refine AHeap.ext' rfl fun i => ?_
  simp only [AHeap.get_set]
  split
  · rename_i e; subst e; exact h.symm
  · rfl
set_option maxRecDepth 100000 in
theorem p_ok {W : Syn.Ws} {s : Syn.St} {p : Nat} {H : AHeap} (h : PAt H p W s) : Does Tryz.prog G 24 [.ptr p 0] H fun r H' => r = .bool (decide (s.err = 0)) ∧ H' = H := by
  refine does_f Tryz.call24 Tryz.func24 rfl (by simp [Tryz.f24]) ?_
  unfold PAt stCells at h
  simp [h]
set_option maxRecDepth 100000 in
theorem p_word {W : Syn.Ws} {s : Syn.St} {p : Nat} {H : AHeap} (h : PAt H p W s) (hi : s.i < W.length) : Does Tryz.prog G 25 [.ptr p 0] H fun r H' => r = .agg (wdCells (Syn.at_ W s).2 (Syn.at_ W s).1) ∧ H' = H := by
  refine Does.forgot (R := fun r H' => r = .agg (wdCells (Syn.at_ W s).2 (Syn.at_ W s).1) ∧ ∀ j x, H.get j = some x → H'.get j = some x) ?_ ?_
  · refine Does.wf Tryz.call25 fun hw _ => ?_
    have old : ∀ j x, H.get j = some x → j ≠ H.next := fun j x hj => by have := next_lt hw hj; omega
    refine does_f Tryz.call25 Tryz.func25 rfl (by simp [Tryz.f25]) ?_
    have hp := old _ _ h
    unfold PAt stCells at h
    have hi' : (s.i : Int) < W.length := by omega
    have hd : (flatW W).drop (s.i * 4) = wdCells (Syn.at_ W s).2 (Syn.at_ W s).1 ++ flatW (W.drop (s.i + 1)) := flatW_at W s.i hi
    simp
    refine aw_drawn [(3, 0), (7, 0), (9, 0)] mixedOrders (by kernel_rfl) ?_
    intro es hes
    simp [h, hp, hi, hi', hd, rds, heapF, wdCells]
    refine ⟨?_, ?_⟩
    · subst hes
      exact ⟨by kernel_rfl, by kernel_rfl⟩
    intro j x hj
    simp [hj, old j x hj]
  · rintro hw ha r H1 ⟨rfl, h⟩
    exact ⟨h, by simp [AV.idLt, AV.allLt, wdCells], rfl, rfl⟩
theorem text_beq (a b : Bs) : (a == b) = decide (a = b) := by
  rw [Bool.eq_iff_iff]; simp
set_option maxRecDepth 100000 in
theorem p_fail {W : Syn.Ws} {s : Syn.St} {p : Nat} {H : AHeap} (h : PAt H p W s) (hi : s.i < W.length) (e : Nat) : Does Tryz.prog G 26 [.ptr p 0, .int .i64 e] H fun r H' => r = .tuple [] ∧ H' = H.set p (.cells (stCells W (Syn.fail W e s))) := by
  refine does_f Tryz.call26 Tryz.func26 rfl (by simp [Tryz.f26]) ?_
  simp
  refine does_use (p_ok h) ?_
  rintro _ H1 ⟨rfl, rfl⟩
  by_cases h0 : s.err = 0
  · simp [h0]
    refine does_use (p_word h hi) ?_
    rintro _ H2 ⟨rfl, rfl⟩
    unfold PAt stCells at h
    simp [h, h0, wdCells, Syn.fail, stCells]
  · simp [h0, Syn.fail]
    exact (set_same h).symm
set_option maxRecDepth 100000 in
theorem p_is {W : Syn.Ws} {s : Syn.St} {p : Nat} {H : AHeap} (h : PAt H p W s) (hi : s.i < W.length) (t : Bs) : Does Tryz.prog G 102 [.ptr p 0, .str t] H fun r H' => r = .bool (Syn.is W s t) ∧ H' = H := by
  refine Does.forgot (R := fun r H' => r = .bool (Syn.is W s t) ∧ ∀ j x, H.get j = some x → H'.get j = some x) ?_ ?_
  · refine Does.wf Tryz.call102 fun hw _ => ?_
    have old : ∀ j x, H.get j = some x → j ≠ H.next := fun j x hj => by have := next_lt hw hj; omega
    refine does_f Tryz.call102 Tryz.func102 rfl (by simp [Tryz.f102]) ?_
    simp
    refine does_use (p_word h hi) ?_
    rintro _ H1 ⟨rfl, rfl⟩
    have hp := old _ _ h
    simp [wdCells]
    refine does_use (p_ok (W := W) (s := s) (by unfold PAt; simp [hp]; exact h)) ?_
    rintro _ H2 ⟨rfl, rfl⟩
    by_cases h0 : s.err = 0
    · by_cases h2 : (Syn.at_ W s).2.kind = 2
      · have h2' : (((Syn.at_ W s).2.kind : Nat) : Int) = 2 := by omega
        simp [h0, h2, h2', Syn.is, Syn.kind, Syn.text]
        intro j x hj
        simp [hj, old j x hj]
      · have h2' : ¬ (((Syn.at_ W s).2.kind : Nat) : Int) = 2 := by omega
        by_cases h4 : (Syn.at_ W s).2.kind = 4
        · have h4' : (((Syn.at_ W s).2.kind : Nat) : Int) = 4 := by omega
          simp [h0, h2, h2', h4, h4', Syn.is, Syn.kind, Syn.text]
          intro j x hj
          simp [hj, old j x hj]
        · have h4' : ¬ (((Syn.at_ W s).2.kind : Nat) : Int) = 4 := by omega
          simp [h0, h2, h2', h4, h4', Syn.is, Syn.kind, Syn.text]
          intro j x hj
          simp [hj, old j x hj]
    · simp [h0, Syn.is]
      intro j x hj
      simp [hj, old j x hj]
  · rintro hw ha r H1 ⟨rfl, h⟩
    exact ⟨h, by simp [AV.idLt], rfl, rfl⟩
end Go.Proofs.YtpnjkagghmoamaaGreatDoor

namespace Go.Proofs.YtpnjkagghmoamaaGreatDoor
open Go Go.Abs Go.Lex
set_option linter.unusedSimpArgs false
variable {G : Nat → Option AV}
theorem wrap_eq (n : Int) : IntKind.i64.wrap n = Syn.wrap n := by rw [IntKind.wrap_i64]; rfl
theorem is_kind {W : Syn.Ws} {s : Syn.St} {t : Bs} (h : Syn.is W s t = true) : s.err = 0 ∧ (Syn.at_ W s).2.kind ≠ 0 := by
  simp only [Syn.is, Syn.kind, Bool.and_eq_true, Bool.or_eq_true, beq_iff_eq] at h
  exact ⟨h.1, by omega⟩
theorem one_kind {W : Syn.Ws} {s : Syn.St} {ts : List Bs} (h : Syn.one W s ts = true) : s.err = 0 ∧ (Syn.at_ W s).2.kind ≠ 0 := by
  simp only [Syn.one, List.any_eq_true] at h
  obtain ⟨t, _, h⟩ := h
  exact is_kind h
theorem ok_succ {W : Syn.Ws} (hW : WsOk W) {s : Syn.St} (hi : s.i < W.length) (hk : (Syn.at_ W s).2.kind ≠ 0) : s.i + 1 < W.length := hW.last s.i hi hk
theorem fail_i (W : Syn.Ws) (e : Nat) (s : Syn.St) : (Syn.fail W e s).i = s.i := by unfold Syn.fail; split <;> rfl
theorem want1_ok {W : Syn.Ws} (hW : WsOk W) {s : Syn.St} (hi : s.i < W.length) (t : Bs) : (Syn.want1 W s t).i < W.length := by
  unfold Syn.want1
  split
  · rename_i h; exact ok_succ hW hi (is_kind h).2
  · rw [fail_i]; exact hi
theorem want_ok {W : Syn.Ws} (hW : WsOk W) : ∀ (ts : List Bs) {s : Syn.St}, s.i < W.length → (Syn.want W s ts).i < W.length
  | [], _, h => h
  | t :: ts, _, h => want_ok hW ts (want1_ok hW h t)
theorem take_ok {W : Syn.Ws} (hW : WsOk W) {s : Syn.St} (hi : s.i < W.length) (t : Bs) : (Syn.take W s t).2.i < W.length := by
  unfold Syn.take
  split
  · rename_i h; exact ok_succ hW hi (is_kind h).2
  · exact hi
theorem part_ok {W : Syn.Ws} (hW : WsOk W) {s : Syn.St} (hi : s.i < W.length) (hk : (Syn.at_ W s).2.kind ≠ 0) : (Syn.part W s).i < W.length := by
  have h := ok_succ hW hi hk
  unfold Syn.part
  simp only
  by_cases hc : 300 < Syn.wrap (s.parts + 1)
  · simp only [hc, if_true]
    split <;> simp only [fail_i] <;> omega
  · simp only [hc, if_false]
    split <;> omega
theorem deeper_i (W : Syn.Ws) (b : Bool) (s : Syn.St) : (Syn.deeper W b s).2.i = s.i := by
  unfold Syn.deeper
  simp only
  split
  · exact fail_i W 2 s
  · rfl
theorem name_ok {W : Syn.Ws} (hW : WsOk W) {s : Syn.St} (hi : s.i < W.length) : (Syn.name W s).2.i < W.length := by
  unfold Syn.name
  simp only
  by_cases h1 : Syn.kind W s = 1
  · rw [if_pos h1]
    split
    · exact ok_succ hW hi (by unfold Syn.kind at h1; omega)
    · exact hi
  · rw [if_neg h1]
    split
    · rename_i h
      unfold Syn.fail at h
      split at h
      · simp at h
      · rename_i h2; exact absurd h h2
    · rw [fail_i]; exact hi
theorem PAt.set {H : AHeap} {p : Nat} {W : Syn.Ws} (s : Syn.St) : PAt (H.set p (.cells (stCells W s))) p W s := by unfold PAt; simp
theorem PAt.ext {H H' : AHeap} {p : Nat} {W : Syn.Ws} {s : Syn.St} (h : PAt H p W s) (hg : H'.get p = H.get p) : PAt H' p W s := hg.trans h
theorem stCells_lt (n : Nat) (W : Syn.Ws) (s : Syn.St) : AV.allLt n (stCells W s) = true := by
  simp [stCells, AV.allLt, AV.idLt, flatW_lt]
theorem set_back {W : Syn.Ws} {s s' : Syn.St} {p : Nat} {H H1 : AHeap} (hw : H.Wf) (h : PAt H p W s) (h1 : H1.get p = some (.cells (stCells W s'))) (h2 : ∀ j x, j ≠ p → H.get j = some x → H1.get j = some x) :
    ∀ i x, (H.set p (.cells (stCells W s'))).get i = some x → H1.get i = some x ∧ i < H.next ∧ AV.allLt H.next x.cellsList = true := by
  intro i x hi
  simp only [AHeap.get_set] at hi
  split at hi
  · rename_i e; subst e
    simp only [Option.some.injEq] at hi; subst hi
    exact ⟨h1, next_lt hw h, stCells_lt _ _ _⟩
  · rename_i e
    exact ⟨h2 i x e hi, (hw i x hi).1, (hw i x hi).2⟩
set_option maxRecDepth 100000 in
theorem p_index {W : Syn.Ws} {s : Syn.St} {p : Nat} {H : AHeap} (h : PAt H p W s) (hi : s.i < W.length) (ts : List Bs) (j cap : Nat) (op : Bool) (hj : H.get j = some (.cells (ts.map .str))) (hl : ts.length ≤ 1000) :
    Does Tryz.prog G 141 [.sl j 0 1 ts.length cap op, .func (.func 102) [.ptr p 0] []] H fun r H' => (∃ n : Int, r = .int .i64 n ∧ (0 ≤ n ↔ Syn.one W s ts = true)) ∧ H' = H := by
  refine does_f Tryz.call141 Tryz.func141 rfl (by simp [Tryz.f141]) ?_
  simp
  refine aws_loop (fun m T' H' => ∃ a b, ts = a ++ b ∧ m = b.length ∧ (∀ y ∈ a, Syn.is W s y = false) ∧ T' 0 = .sl j 0 1 ts.length cap op ∧ T' 1 = .func (.func 102) [.ptr p 0] [] ∧ T' 7 = .int .i64 ts.length ∧ T' 8 = .int .i64 a.length ∧ H' = H) ts.length ⟨[], ts, rfl, rfl, by simp, by simp, by simp, by simp, by simp, rfl⟩ ?_
  rintro m T H1 ⟨a, b, hab, rfl, hn, t0, t1, t7, t8, rfl⟩
  have hlen : a.length + b.length = ts.length := by rw [← List.length_append, ← hab]
  cases b with
  | nil =>
    have ha : a.length = ts.length := by simpa using hlen
    have hone : Syn.one W s ts = false := by
      rw [Syn.one, hab, List.append_nil, List.any_eq_false]
      intro x hx; rw [hn x hx]; simp
    simp [t0, t1, t7, t8, ha, hone]
  | cons t b =>
    simp only [List.length_cons] at hlen
    have hlt : (a.length : Int) < ts.length := by omega
    have hlt2 : a.length < ts.length := by omega
    have hlt3 : a.length ≤ ts.length := by omega
    have hw1 : IntKind.i64.wrap ((a.length : Int) + 1) = a.length + 1 := IntWalk.i64_in _ (by omega)
    have hd : List.drop a.length (List.map AV.str ts) = .str t :: b.map .str := by
      rw [hab, List.map_append, List.drop_left' (by simp)]; rfl
    simp [t0, t1, t7, t8, hlt, hlt2, hlt3, hd, hj]
    refine does_use (p_is h hi t) ?_
    rintro _ H2 ⟨rfl, rfl⟩
    by_cases ht : Syn.is W s t = true
    · have hone : Syn.one W s ts = true := by
        rw [Syn.one, List.any_eq_true]
        exact ⟨t, by rw [hab]; simp, ht⟩
      simp [ht, hone]
    · have ht' : Syn.is W s t = false := by simpa using ht
      simp [ht', t0, t1, t7, t8, hw1]
      refine ⟨b.length, by omega, a ++ [t], b, by simp [hab], rfl, ?_, by simp⟩
      intro y hy
      simp at hy
      rcases hy with hy | rfl
      · exact hn y hy
      · exact ht'
set_option maxRecDepth 100000 in
theorem p_contains {W : Syn.Ws} {s : Syn.St} {p : Nat} {H : AHeap} (h : PAt H p W s) (hi : s.i < W.length) (ts : List Bs) (j cap : Nat) (op : Bool) (hj : H.get j = some (.cells (ts.map .str))) (hl : ts.length ≤ 1000) :
    Does Tryz.prog G 139 [.sl j 0 1 ts.length cap op, .func (.func 102) [.ptr p 0] []] H fun r H' => r = .bool (Syn.one W s ts) ∧ H' = H := by
  refine does_f Tryz.call139 Tryz.func139 rfl (by simp [Tryz.f139]) ?_
  simp
  refine does_use (p_index h hi ts j cap op hj hl) ?_
  rintro _ H1 ⟨⟨n, rfl, hn⟩, rfl⟩
  simp
  rw [Bool.eq_iff_iff, decide_eq_true_eq, hn]
set_option maxRecDepth 100000 in
theorem p_one {W : Syn.Ws} {s : Syn.St} {p : Nat} {H : AHeap} (h : PAt H p W s) (hi : s.i < W.length) (ts : List Bs) (j cap : Nat) (op : Bool) (hj : H.get j = some (.cells (ts.map .str))) (hl : ts.length ≤ 1000) :
    Does Tryz.prog G 220 [.ptr p 0, .sl j 0 1 ts.length cap op] H fun r H' => r = .bool (Syn.one W s ts) ∧ H' = H := by
  refine does_f Tryz.call220 Tryz.func220 rfl (by simp [Tryz.f220]) ?_
  simp
  refine does_use (p_contains h hi ts j cap op hj hl) ?_
  rintro _ H1 ⟨rfl, rfl⟩
  simp
set_option maxRecDepth 100000 in
theorem p_take {W : Syn.Ws} (hW : WsOk W) {s : Syn.St} {p : Nat} {H : AHeap} (h : PAt H p W s) (hi : s.i < W.length) (t : Bs) : Does Tryz.prog G 57 [.ptr p 0, .str t] H fun r H' => r = .bool (Syn.take W s t).1 ∧ H' = H.set p (.cells (stCells W (Syn.take W s t).2)) := by
  refine does_f Tryz.call57 Tryz.func57 rfl (by simp [Tryz.f57]) ?_
  simp
  refine does_use (p_is h hi t) ?_
  rintro _ H1 ⟨rfl, rfl⟩
  have hsm := hW.small
  have hw1 : IntKind.i64.wrap ((s.i : Int) + 1) = s.i + 1 := IntWalk.i64_in _ (by omega)
  by_cases ht : Syn.is W s t = true
  · unfold PAt stCells at h
    simp [ht, Syn.take, h, hw1, stCells]
  · have ht' : Syn.is W s t = false := by simpa using ht
    simp [ht', Syn.take]
    exact (set_same h).symm
set_option maxRecDepth 100000 in
theorem p_want {W : Syn.Ws} (hW : WsOk W) {s : Syn.St} {p : Nat} {H : AHeap} (h : PAt H p W s) (hi : s.i < W.length) (ts : List Bs) (j cap : Nat) (op : Bool) (hj : H.get j = some (.cells (ts.map .str))) (hjp : j ≠ p) (hl : ts.length ≤ 1000) :
    Does Tryz.prog G 54 [.ptr p 0, .sl j 0 1 ts.length cap op] H fun r H' => r = .tuple [] ∧ H' = H.set p (.cells (stCells W (Syn.want W s ts))) := by
  refine does_f Tryz.call54 Tryz.func54 rfl (by simp [Tryz.f54]) ?_
  simp
  refine aws_loop (fun m T' H' => ∃ a b, ts = a ++ b ∧ m = b.length ∧ T' 0 = .ptr p 0 ∧ T' 6 = .sl j 0 1 ts.length cap op ∧ T' 7 = .int .i64 ts.length ∧ T' 8 = .int .i64 a.length ∧ H' = H.set p (.cells (stCells W (Syn.want W s a)))) ts.length ⟨[], ts, rfl, rfl, by simp, by simp, by simp, by simp, by simp [Syn.want]; exact (set_same h).symm⟩ ?_
  rintro m T H1 ⟨a, b, hab, rfl, t0, t6, t7, t8, rfl⟩
  have hlen : a.length + b.length = ts.length := by rw [← List.length_append, ← hab]
  cases b with
  | nil =>
    have ha : a.length = ts.length := by simpa using hlen
    rw [List.append_nil] at hab
    subst hab
    simp [t0, t6, t7, t8]
  | cons t b =>
    simp only [List.length_cons] at hlen
    have hlt : (a.length : Int) < ts.length := by omega
    have hlt2 : a.length < ts.length := by omega
    have hlt3 : a.length ≤ ts.length := by omega
    have hw1 : IntKind.i64.wrap ((a.length : Int) + 1) = a.length + 1 := IntWalk.i64_in _ (by omega)
    have hd : List.drop a.length (List.map AV.str ts) = .str t :: b.map .str := by
      rw [hab, List.map_append, List.drop_left' (by simp)]; rfl
    have hia := want_ok hW a hi
    have hst : Syn.want W s (a ++ [t]) = Syn.want1 W (Syn.want W s a) t := by simp [Syn.want]
    simp [t0, t6, t7, t8, hlt, hlt2, hlt3, hd, hj, hjp]
    refine does_use (p_take hW (PAt.set _) hia t) ?_
    rintro _ H2 ⟨rfl, rfl⟩
    simp
    by_cases ht : Syn.is W (Syn.want W s a) t = true
    · simp [ht, Syn.take, t0, t6, t7, t8, hw1]
      exact ⟨b.length, by omega, a ++ [t], b, by simp [hab], rfl, by simp, by rw [hst, Syn.want1, if_pos ht]⟩
    · have ht' : Syn.is W (Syn.want W s a) t = false := by simpa using ht
      simp [ht', Syn.take, t0, t6, t7, t8, hw1]
      refine does_use (p_fail (PAt.set _) hia 7) ?_
      rintro _ H3 ⟨rfl, rfl⟩
      simp [t0, t6, t7, t8, hw1]
      exact ⟨b.length, by omega, a ++ [t], b, by simp [hab], rfl, by simp, by rw [hst, Syn.want1, if_neg ht]⟩
set_option maxRecDepth 100000 in
theorem p_deeper {W : Syn.Ws} {s : Syn.St} {p : Nat} {H : AHeap} (h : PAt H p W s) (hi : s.i < W.length) (d : Int) : Does Tryz.prog G 162 [.ptr p 0, .int .i64 d] H fun r H' => r = .bool (Syn.deeper W (decide (d = 30)) s).1 ∧ H' = H.set p (.cells (stCells W (Syn.deeper W (decide (d = 30)) s).2)) := by
  refine does_f Tryz.call162 Tryz.func162 rfl (by simp [Tryz.f162]) ?_
  by_cases hd : d = 30
  · simp [hd]
    refine does_use (p_fail h hi 2) ?_
    rintro _ H1 ⟨rfl, rfl⟩
    simp
    refine does_use (p_ok (PAt.set _)) ?_
    rintro _ H2 ⟨rfl, rfl⟩
    subst hd
    simp [Syn.deeper]
  · simp [hd]
    refine does_use (p_ok h) ?_
    rintro _ H2 ⟨rfl, rfl⟩
    simp [Syn.deeper, hd]
    exact (set_same h).symm
set_option maxRecDepth 100000 in
theorem p_part {W : Syn.Ws} (hW : WsOk W) {s : Syn.St} {p : Nat} {H : AHeap} (h : PAt H p W s) (hi : s.i < W.length) : Does Tryz.prog G 161 [.ptr p 0] H fun r H' => r = .agg (wdCells (Syn.at_ W s).2 (Syn.at_ W s).1) ∧ H' = H.set p (.cells (stCells W (Syn.part W s))) := by
  refine Does.deep (R := fun r H' => r = .agg (wdCells (Syn.at_ W s).2 (Syn.at_ W s).1) ∧ H'.get p = some (.cells (stCells W (Syn.part W s))) ∧ ∀ j x, j ≠ p → H.get j = some x → H'.get j = some x) ?_ ?_
  · refine Does.wf Tryz.call161 fun hw _ => ?_
    have old : ∀ j x, H.get j = some x → j ≠ H.next ∧ j ≠ H.next + 1 := fun j x hj => by have := next_lt hw hj; omega
    refine does_f Tryz.call161 Tryz.func161 rfl (by simp [Tryz.f161]) ?_
    obtain ⟨hp1, hp2⟩ := old _ _ h
    have hsm := hW.small
    have hw1 : IntKind.i64.wrap ((s.i : Int) + 1) = s.i + 1 := IntWalk.i64_in _ (by omega)
    have hw2 : IntKind.i64.wrap (s.parts + 1) = Syn.wrap (s.parts + 1) := wrap_eq _
    simp
    refine does_use (p_word (W := W) (s := s) (by unfold PAt; simp [hp1]; exact h) hi) ?_
    rintro _ H1 ⟨rfl, rfl⟩
    have h' := h
    unfold PAt stCells at h'
    by_cases hc : 300 < Syn.wrap (s.parts + 1)
    · simp [wdCells, h', hp1, hp2, hw2, hc]
      refine does_use (p_fail (W := W) (s := { s with parts := Syn.wrap (s.parts + 1) }) (by unfold PAt stCells; simp) hi 2) ?_
      rintro _ H2 ⟨rfl, rfl⟩
      simp
      refine does_use (p_ok (PAt.set _)) ?_
      rintro _ H3 ⟨rfl, rfl⟩
      by_cases h0 : (Syn.fail W 2 { s with parts := Syn.wrap (s.parts + 1) }).err = 0
      · exact absurd h0 (by unfold Syn.fail; split <;> simp_all)
      · simp [h0, Syn.part, hc, hp1, hp2, Ne.symm hp1, Ne.symm hp2]
        refine ⟨rfl, fun j x hjp hj => ?_⟩
        obtain ⟨k1, k2⟩ := old j x hj
        simp [hj, hjp, k1, k2]
    · simp [wdCells, h', hp1, hp2, hw2, hc]
      refine does_use (p_ok (W := W) (s := { s with parts := Syn.wrap (s.parts + 1) }) (by unfold PAt stCells; simp)) ?_
      rintro _ H3 ⟨rfl, rfl⟩
      by_cases h0 : s.err = 0
      · simp [h0, Syn.part, hc, hp1, hp2, Ne.symm hp1, Ne.symm hp2, hw1, stCells]
        refine ⟨rfl, fun j x hjp hj => ?_⟩
        obtain ⟨k1, k2⟩ := old j x hj
        simp [hj, hjp, k1, k2]
      · simp [h0, Syn.part, hc, hp1, hp2, Ne.symm hp1, Ne.symm hp2, hw1, stCells]
        refine ⟨rfl, fun j x hjp hj => ?_⟩
        obtain ⟨k1, k2⟩ := old j x hj
        simp [hj, hjp, k1, k2]
  · rintro hw ha r H1 ⟨rfl, h1, h2⟩
    exact ⟨_, H.set p (.cells (stCells W (Syn.part W s))), .old (by simp [AV.idLt, AV.allLt, wdCells]), rfl, set_back hw h h1 h2, rfl, rfl⟩
end Go.Proofs.YtpnjkagghmoamaaGreatDoor

namespace Go.Proofs.YtpnjkagghmoamaaGreatDoor
open Go Go.Abs Go.Lex
set_option linter.unusedSimpArgs false
variable {G : Nat → Option AV}
def kidsV (ks : List Syn.Ex) : AV := if ks.isEmpty then .nilsl else .vsl (exsCells ks) ks.length
@[simp] theorem kidsV_scalar (ks : List Syn.Ex) : (kidsV ks).scalar = true := by unfold kidsV; split <;> rfl
@[simp] theorem kidsV_cells (ks : List Syn.Ex) : (kidsV ks).cells = [kidsV ks] := by unfold kidsV; split <;> rfl
theorem exCells_mk (op nm : Bs) (n p : Nat) (ks : List Syn.Ex) : exCells (.mk op nm n p ks) = [.str op, .str nm, .int .i64 n, .int .i64 p, kidsV ks] := by
  simp only [exCells, kidsV]
mutual
theorem exCells_lt (m : Nat) : ∀ e : Syn.Ex, AV.allLt m (exCells e) = true
  | .mk op nm n p ks => by
    have h := exsCells_lt m ks
    rw [exCells_mk]
    unfold kidsV
    split <;> simp [AV.allLt, AV.idLt, h]
theorem exsCells_lt (m : Nat) : ∀ l : List Syn.Ex, AV.allLt m (exsCells l) = true
  | [] => rfl
  | e :: l => by rw [exsCells, allLt_app, exCells_lt m e, exsCells_lt m l]; rfl
end
theorem kidsV_lt (m : Nat) (ks : List Syn.Ex) : (kidsV ks).idLt m = true := by
  unfold kidsV
  split
  · rfl
  · simpa [AV.idLt] using exsCells_lt m ks
def PRes (H : AHeap) (p : Nat) (W : Syn.Ws) (x : Syn.Ex × Syn.St) (r : AV) (H' : AHeap) : Prop :=
  ResV H'.get H.next r (.agg (exCells x.1)) ∧ H'.get p = some (.cells (stCells W x.2)) ∧ ∀ j y, j ≠ p → H.get j = some y → H'.get j = some y
theorem PRes.deep {f : FuncId} {args : List AV} {H : AHeap} {p : Nat} {W : Syn.Ws} {s : Syn.St} {x : Syn.Ex × Syn.St} (h : PAt H p W s) (hd : Does Tryz.prog G f args H (PRes H p W x)) : Does Tryz.prog G f args H fun r H' => r = .agg (exCells x.1) ∧ H' = H.set p (.cells (stCells W x.2)) := by
  refine Does.deep hd ?_
  rintro hw ha r H1 ⟨h1, h2, h3⟩
  exact ⟨_, H.set p (.cells (stCells W x.2)), h1, rfl, set_back hw h h2 h3, rfl, rfl⟩
def Reads (G : Nat → Option AV) (W : Syn.Ws) (p : Nat) (f : FuncId) (d : Int) (g : Syn.P) : Prop :=
  ∀ (H : AHeap) (s : Syn.St), PAt H p W s → s.i < W.length → Does Tryz.prog G f [.ptr p 0, .int .i64 d] H fun r H' => r = .agg (exCells (g s).1) ∧ H' = H.set p (.cells (stCells W (g s).2))
def RightC (G : Nat → Option AV) (W : Syn.Ws) (p : Nat) (nf : FuncId) (t : Bs) (d : Int) (g : Syn.P) : Prop :=
  ∀ (H : AHeap) (s : Syn.St), PAt H p W s → s.i < W.length → Does Tryz.prog G 104 [.ptr p 0, .int .i64 d, .func (.func nf) [.ptr p 0] [], .str t] H fun r H' => r = .agg (exCells (g s).1) ∧ H' = H.set p (.cells (stCells W (g s).2))
def mu (W : Syn.Ws) (s : Syn.St) : Nat := if s.err = 0 then W.length - s.i else 0
structure Keeps (W : Syn.Ws) (g : Syn.P) : Prop where
  i : ∀ s, s.i < W.length → (g s).2.i < W.length
  mu : ∀ s, s.i < W.length → mu W (g s).2 ≤ mu W s
set_option maxRecDepth 100000 in
theorem p_name {W : Syn.Ws} (hW : WsOk W) {s : Syn.St} {p : Nat} {H : AHeap} (h : PAt H p W s) (hi : s.i < W.length) : Does Tryz.prog G 55 [.ptr p 0] H fun r H' => r = .str (Syn.name W s).1 ∧ H' = H.set p (.cells (stCells W (Syn.name W s).2)) := by
  refine Does.deep (R := fun r H' => r = .str (Syn.name W s).1 ∧ H'.get p = some (.cells (stCells W (Syn.name W s).2)) ∧ ∀ j x, j ≠ p → H.get j = some x → H'.get j = some x) ?_ ?_
  · refine Does.wf Tryz.call55 fun hw _ => ?_
    have old : ∀ j x, H.get j = some x → j ≠ H.next := fun j x hj => by have := next_lt hw hj; omega
    refine does_f Tryz.call55 Tryz.func55 rfl (by simp [Tryz.f55]) ?_
    have hp1 := old _ _ h
    have hsm := hW.small
    have hw1 : IntKind.i64.wrap ((s.i : Int) + 1) = s.i + 1 := IntWalk.i64_in _ (by omega)
    simp
    refine does_use (p_word h hi) ?_
    rintro _ H1 ⟨rfl, rfl⟩
    by_cases hk : (Syn.at_ W s).2.kind = 1
    · have hk' : (((Syn.at_ W s).2.kind : Nat) : Int) = 1 := by omega
      simp [wdCells, hk']
      refine does_use (p_ok (W := W) (s := s) (by unfold PAt; simp [hp1]; exact h)) ?_
      rintro _ H2 ⟨rfl, rfl⟩
      by_cases h0 : s.err = 0
      · have h' := h
        unfold PAt stCells at h'
        simp [h0, h', hp1, Ne.symm hp1, hw1, Syn.name, Syn.kind, hk, Syn.text, stCells]
        intro j x hjp hj
        simp [hj, hjp, old j x hj]
      · simp [h0, hp1, Syn.name, Syn.kind, hk]
        refine ⟨h, fun j x hjp hj => ?_⟩
        simp [hj, hjp, old j x hj]
    · have hk' : ¬ (((Syn.at_ W s).2.kind : Nat) : Int) = 1 := by omega
      have hk2 : ((((Syn.at_ W s).2.kind : Nat) : Int) != 1) = true := by simp [hk']
      simp [wdCells, hk2]
      refine does_use (p_fail (W := W) (s := s) (by unfold PAt; simp [hp1]; exact h) hi 7) ?_
      rintro _ H2 ⟨rfl, rfl⟩
      simp
      refine does_use (p_ok (PAt.set _)) ?_
      rintro _ H3 ⟨rfl, rfl⟩
      have h0 : ¬ (Syn.fail W 7 s).err = 0 := by unfold Syn.fail; split <;> simp_all
      simp [h0, hp1, Syn.name, Syn.kind, hk]
      intro j x hjp hj
      simp [hj, hjp, old j x hj]
  · rintro hw ha r H1 ⟨rfl, h1, h2⟩
    exact ⟨_, H.set p (.cells (stCells W (Syn.name W s).2)), .old rfl, rfl, set_back hw h h1 h2, rfl, rfl⟩
set_option maxHeartbeats 2000000 in
set_option maxRecDepth 100000 in
theorem p_right {W : Syn.Ws} (hW : WsOk W) {p : Nat} {nf : FuncId} {t : Bs} {d : Int} {next below : Syn.P} (hd1 : 1 ≤ d) (hd2 : d ≤ 30) (hn : Reads G W p nf d next) (hk : Keeps W next) (hb : d ≠ 30 → RightC G W p nf t (d + 1) below) :
    RightC G W p nf t d (Syn.right W next t (decide (d = 30)) below) := by
  intro H s h hi
  refine PRes.deep h ?_
  refine Does.wf Tryz.call104 fun hw _ => ?_
  have old : ∀ j x, H.get j = some x → j ≠ H.next ∧ j ≠ H.next + 1 ∧ j ≠ H.next + 1 + 1 := fun j x hj => by have := next_lt hw hj; omega
  refine does_f Tryz.call104 Tryz.func104 rfl (by simp [Tryz.f104]) ?_
  obtain ⟨hp1, hp2, hp3⟩ := old _ _ h
  simp
  refine does_use (hn _ s (by unfold PAt; simp [hp1]; exact h) hi) ?_
  rintro _ H1 ⟨rfl, rfl⟩
  have hi1 := hk.i s hi
  rcases hx : next s with ⟨⟨op, nm, n, po, ks⟩, s1⟩
  rw [hx] at hi1
  simp only at hi1
  simp [exCells_mk, hp1, Ne.symm hp1]
  refine does_use (p_is (W := W) (s := s1) (by unfold PAt; simp [hp2]) hi1 t) ?_
  rintro _ H2 ⟨rfl, rfl⟩
  by_cases ht : Syn.is W s1 t = true
  · simp [ht]
    have hk1 := is_kind ht
    refine does_use (p_part hW (W := W) (s := s1) (by unfold PAt; simp [hp2]) hi1) ?_
    rintro _ H2 ⟨rfl, rfl⟩
    have hi2 := part_ok hW hi1 hk1.2
    simp [wdCells]
    refine does_use (p_deeper (W := W) (s := Syn.part W s1) (by unfold PAt; simp [hp3]) hi2 d) ?_
    rintro _ H3 ⟨rfl, rfl⟩
    rcases hdp : Syn.deeper W (decide (d = 30)) (Syn.part W s1) with ⟨b, s2⟩
    have hi3 : s2.i < W.length := by
      have := deeper_i W (decide (d = 30)) (Syn.part W s1)
      rw [hdp] at this
      simp only at this
      omega
    have n0 : H.next ≠ H.next + 1 + 1 := by omega
    cases b with
    | false =>
      simp [hp1, hp2, hp3, Ne.symm hp1, Ne.symm hp2, Ne.symm hp3, n0]
      refine ⟨?_, ?_, ?_⟩
      · simp [Syn.right, hx, ht, hdp]
        rw [exCells_mk]
        exact .old (by simp [AV.idLt, AV.allLt, kidsV_lt])
      · simp [Syn.right, hx, ht, hdp, hp1, hp2, hp3]
      · intro j x hjp hj
        obtain ⟨k1, k2, k3⟩ := old j x hj
        simp [hj, hjp, k1, k2, k3]
    | true =>
      have hd30 : d ≠ 30 := by
        intro e
        subst e
        simp only [decide_true, Syn.deeper, if_true, Prod.mk.injEq] at hdp
        have : ¬ (Syn.fail W 2 (Syn.part W s1)).err = 0 := by unfold Syn.fail; split <;> simp_all
        simp [this] at hdp
      have hw1 : IntKind.i64.wrap (d + 1) = d + 1 := IntWalk.i64_in _ (by omega)
      have hB := hb hd30 
      simp [hp1, hp2, hp3, Ne.symm hp1, Ne.symm hp2, Ne.symm hp3, n0]
      refine aw_drawn [(2, 0), (2, 10), (3, 0), (3, 10)] mixedOrders (by kernel_rfl) ?_
      intro es hes
      simp [hp1, hp2, hp3, Ne.symm hp1, Ne.symm hp2, Ne.symm hp3, n0, hw1]
      refine ⟨_, _, hB _ s2 (by unfold PAt; simp) hi3, by simp, ?_⟩
      rcases hy : below s2 with ⟨⟨op2, nm2, n2, po2, ks2⟩, s4⟩
      have m1 : H.next ≠ H.next + 1 + 1 + 1 := by omega
      have m2 : H.next + 1 + 1 + 1 ≠ H.next := by omega
      have m3 : H.next + 1 + 1 + 1 ≠ H.next + 1 := by omega
      have hp4 : p ≠ H.next + 1 + 1 + 1 := by have := next_lt hw h; omega
      simp [exCells_mk, hp1, hp2, hp3, hp4, Ne.symm hp1, Ne.symm hp2, Ne.symm hp3, Ne.symm hp4, n0, m1, m2, m3, rds, heapF]
      refine ⟨?_, ?_, ?_, ?_⟩
      · subst hes
        exact ⟨by kernel_rfl, by kernel_rfl⟩
      · simp [Syn.right, hx, ht, hdp, hy]
        rw [exCells_mk]
        refine .agg (.cons (.old rfl) (.cons (.old rfl) (.cons (.old rfl) (.cons (.old rfl) (.cons ?_ .nil)))))
        have hkk : kidsV [Syn.Ex.mk op nm n po ks, Syn.Ex.mk op2 nm2 n2 po2 ks2] = .vsl (exsCells [Syn.Ex.mk op nm n po ks, Syn.Ex.mk op2 nm2 n2 po2 ks2]) 2 := rfl
        rw [hkk]
        refine .sl (cs := exsCells [Syn.Ex.mk op nm n po ks, Syn.Ex.mk op2 nm2 n2 po2 ks2]) (by omega) ?_ ?_
        · simp [exsCells, exCells_mk, hp4, Ne.symm hp4, m1, m2, m3]
        · simp only [exsCells, exCells_mk]
          exact .old (by simp [AV.allLt, AV.idLt, kidsV_lt])
      · simp [Syn.right, hx, ht, hdp, hy, hp1, hp2, hp3, hp4]
      · intro j x hjp hj
        obtain ⟨k1, k2, k3⟩ := old j x hj
        have k4 : j ≠ H.next + 1 + 1 + 1 := by have := next_lt hw hj; omega
        simp [hj, hjp, k1, k2, k3, k4]
  · have ht' : Syn.is W s1 t = false := by simpa using ht
    simp [ht', hp1, hp2, Ne.symm hp1, Ne.symm hp2]
    refine ⟨?_, ?_, ?_⟩
    · simp [Syn.right, hx, ht']
      rw [exCells_mk]
      exact .old (by simp [AV.idLt, AV.allLt, kidsV_lt])
    · simp [Syn.right, hx, ht', hp1, hp2]
    · intro j x hjp hj
      obtain ⟨k1, k2, k3⟩ := old j x hj
      simp [hj, hjp, k1, k2, k3]
end Go.Proofs.YtpnjkagghmoamaaGreatDoor

namespace Go.Proofs.YtpnjkagghmoamaaGreatDoor
open Go Go.Abs Go.Lex
set_option linter.unusedSimpArgs false
variable {G : Nat → Option AV}
theorem fail_err (W : Syn.Ws) {e : Nat} (he : e ≠ 0) (s : Syn.St) : ¬ (Syn.fail W e s).err = 0 := by unfold Syn.fail; split <;> simp_all
theorem deeper_no {W : Syn.Ws} {d : Int} {s s2 : Syn.St} (h : Syn.deeper W (decide (d = 30)) s = (true, s2)) : d ≠ 30 ∧ s2 = s := by
  by_cases e : d = 30
  · subst e
    simp [Syn.deeper, fail_err W (e := 2) (by omega)] at h
  · simp only [Syn.deeper, e, decide_false, Bool.false_eq_true, if_false, Prod.mk.injEq] at h
    exact ⟨e, h.2.symm⟩
set_option maxHeartbeats 2000000 in
set_option maxRecDepth 100000 in
theorem p_inner {W : Syn.Ws} {p : Nat} {d : Int} {below : Syn.P} (hd1 : 1 ≤ d) (hd2 : d ≤ 30) (hb : d ≠ 30 → Reads G W p 59 (d + 1) below) :
    Reads G W p 294 d (Syn.inner W (decide (d = 30)) below) := by
  intro H s h hi
  refine PRes.deep h ?_
  refine Does.wf Tryz.call294 fun hw _ => ?_
  have old : ∀ j x, H.get j = some x → j ≠ H.next := fun j x hj => by have := next_lt hw hj; omega
  refine does_f Tryz.call294 Tryz.func294 rfl (by simp [Tryz.f294]) ?_
  have hp1 := old _ _ h
  simp
  refine does_use (p_deeper (W := W) (s := s) (by unfold PAt; simp [hp1]; exact h) hi d) ?_
  rintro _ H1 ⟨rfl, rfl⟩
  rcases hdp : Syn.deeper W (decide (d = 30)) s with ⟨b, s2⟩
  have hi3 : s2.i < W.length := by
    have := deeper_i W (decide (d = 30)) s
    rw [hdp] at this
    simp only at this
    omega
  cases b with
  | false =>
    simp [hp1, Ne.symm hp1]
    refine ⟨?_, ?_, ?_⟩
    · simp [Syn.inner, hdp]
      exact .old rfl
    · simp [Syn.inner, hdp, hp1]
    · intro j x hjp hj
      simp [hj, hjp, old j x hj]
  | true =>
    have hd30 := (deeper_no hdp).1
    have hw1 : IntKind.i64.wrap (d + 1) = d + 1 := IntWalk.i64_in _ (by omega)
    have hB := hb hd30
    simp [hp1, Ne.symm hp1, hw1]
    refine does_use (hB _ s2 (PAt.set _) hi3) ?_
    rintro _ H2 ⟨rfl, rfl⟩
    rcases hy : below s2 with ⟨⟨op, nm, n, po, ks⟩, s4⟩
    simp [exCells_mk, hp1, Ne.symm hp1]
    refine ⟨?_, ?_, ?_⟩
    · simp [Syn.inner, hdp, hy]
      rw [exCells_mk]
      exact .old (by simp [AV.idLt, AV.allLt, kidsV_lt])
    · simp [Syn.inner, hdp, hy, hp1]
    · intro j x hjp hj
      simp [hj, hjp, old j x hj]
set_option maxHeartbeats 2000000 in
set_option maxRecDepth 100000 in
theorem p_merged {W : Syn.Ws} {p : Nat} {d : Int} {below : Syn.P} (hd1 : 1 ≤ d) (hd2 : d ≤ 30) (hb : d ≠ 30 → Reads G W p 293 (d + 1) below) :
    Reads G W p 297 d (Syn.inner W (decide (d = 30)) below) := by
  intro H s h hi
  refine PRes.deep h ?_
  refine Does.wf Tryz.call297 fun hw _ => ?_
  have old : ∀ j x, H.get j = some x → j ≠ H.next := fun j x hj => by have := next_lt hw hj; omega
  refine does_f Tryz.call297 Tryz.func297 rfl (by simp [Tryz.f297]) ?_
  have hp1 := old _ _ h
  simp
  refine does_use (p_deeper (W := W) (s := s) (by unfold PAt; simp [hp1]; exact h) hi d) ?_
  rintro _ H1 ⟨rfl, rfl⟩
  rcases hdp : Syn.deeper W (decide (d = 30)) s with ⟨b, s2⟩
  have hi3 : s2.i < W.length := by
    have := deeper_i W (decide (d = 30)) s
    rw [hdp] at this
    simp only at this
    omega
  cases b with
  | false =>
    simp [hp1, Ne.symm hp1]
    refine ⟨?_, ?_, ?_⟩
    · simp [Syn.inner, hdp]
      exact .old rfl
    · simp [Syn.inner, hdp, hp1]
    · intro j x hjp hj
      simp [hj, hjp, old j x hj]
  | true =>
    have hd30 := (deeper_no hdp).1
    have hw1 : IntKind.i64.wrap (d + 1) = d + 1 := IntWalk.i64_in _ (by omega)
    have hB := hb hd30
    simp [hp1, Ne.symm hp1, hw1]
    refine does_use (hB _ s2 (PAt.set _) hi3) ?_
    rintro _ H2 ⟨rfl, rfl⟩
    rcases hy : below s2 with ⟨⟨op, nm, n, po, ks⟩, s4⟩
    simp [exCells_mk, hp1, Ne.symm hp1]
    refine ⟨?_, ?_, ?_⟩
    · simp [Syn.inner, hdp, hy]
      rw [exCells_mk]
      exact .old (by simp [AV.idLt, AV.allLt, kidsV_lt])
    · simp [Syn.inner, hdp, hy, hp1]
    · intro j x hjp hj
      simp [hj, hjp, old j x hj]
set_option maxHeartbeats 4000000 in
set_option maxRecDepth 100000 in
theorem p_un {W : Syn.Ws} (hW : WsOk W) {p : Nat} {d : Int} {prim below : Syn.P} (hd1 : 1 ≤ d) (hd2 : d ≤ 30) (hn : Reads G W p 293 d prim) (hb : d ≠ 30 → Reads G W p 292 (d + 1) below) :
    Reads G W p 292 d (Syn.un W prim (decide (d = 30)) below) := by
  intro H s h hi
  refine PRes.deep h ?_
  refine Does.wf Tryz.call292 fun hw _ => ?_
  have old : ∀ j x, H.get j = some x → j ≠ H.next ∧ j ≠ H.next + 1 ∧ j ≠ H.next + 1 + 1 ∧ j ≠ H.next + 1 + 1 + 1 := fun j x hj => by have := next_lt hw hj; omega
  refine does_f Tryz.call292 Tryz.func292 rfl (by simp [Tryz.f292]) ?_
  obtain ⟨hp1, hp2, hp3, hp4⟩ := old _ _ h
  have hq1 := Ne.symm hp1
  have hq2 := Ne.symm hp2
  have hq3 := Ne.symm hp3
  have hq4 := Ne.symm hp4
  have m1 : H.next ≠ H.next + 1 := by omega
  have m2 : H.next ≠ H.next + 1 + 1 := by omega
  have m3 : H.next ≠ H.next + 1 + 1 + 1 := by omega
  have m4 : H.next + 1 ≠ H.next + 1 + 1 + 1 := by omega
  have m5 : H.next + 1 + 1 + 1 ≠ H.next := by omega
  simp
  refine does_use (p_one (W := W) (s := s) (by unfold PAt; simp [hp1, hp2]; exact h) hi [[110, 111, 116], [45], [112, 114, 101]] (H.next + 1) 3 false (by simp) (by simp)) ?_
  rintro _ H1 ⟨rfl, rfl⟩
  by_cases ho : Syn.one W s [[110, 111, 116], [45], [112, 114, 101]] = true
  · have hk1 := one_kind ho
    simp [ho]
    refine does_use (p_part hW (W := W) (s := s) (by unfold PAt; simp [hp1, hp2]; exact h) hi) ?_
    rintro _ H2 ⟨rfl, rfl⟩
    have hi2 := part_ok hW hi hk1.2
    obtain ⟨opn, hopn⟩ : ∃ opn, opn = if (Syn.at_ W s).2.text = [45] then [110, 101, 103] else (Syn.at_ W s).2.text := ⟨_, rfl⟩
    have main : ∀ (c : Bool), c = decide ((Syn.at_ W s).2.text = [45]) → True := fun _ _ => trivial
    by_cases ht : (Syn.at_ W s).2.text = [45]
    all_goals
      simp [ht] at hopn
      subst hopn
      simp [wdCells, ht, text_beq]
      refine does_use (p_deeper (W := W) (s := Syn.part W s) (by unfold PAt; simp [hp1, hp2, hp3, hq1, hq2, hq3]) hi2 d) ?_
      rintro _ H3 ⟨rfl, rfl⟩
      rcases hdp : Syn.deeper W (decide (d = 30)) (Syn.part W s) with ⟨b, s2⟩
      have hi3 : s2.i < W.length := by
        have := deeper_i W (decide (d = 30)) (Syn.part W s)
        rw [hdp] at this
        simp only at this
        omega
      cases b with
      | false =>
        simp [hp1, hp2, hp3, hq1, hq2, hq3, m1, m2, m3, m4]
        refine ⟨?_, ?_, ?_⟩
        · simp [Syn.un, ho, hdp]
          exact .old rfl
        · simp [Syn.un, ho, hdp, hp1, hp2, hp3]
        · intro j x hjp hj
          obtain ⟨k1, k2, k3, k4⟩ := old j x hj
          simp [hj, hjp, k1, k2, k3, k4]
      | true =>
        have hd30 := (deeper_no hdp).1
        have hw1 : IntKind.i64.wrap (d + 1) = d + 1 := IntWalk.i64_in _ (by omega)
        have hB := hb hd30
        simp [hp1, hp2, hp3, hq1, hq2, hq3, m1, m2, m3, m4]
        refine aw_drawn [(2, 0), (2, 7)] mixedOrders (by kernel_rfl) ?_
        intro es hes
        simp [hp1, hp2, hp3, hq1, hq2, hq3, m1, m2, m3, m4, hw1]
        refine ⟨_, _, hB _ s2 (by unfold PAt; simp) hi3, by simp, ?_⟩
        rcases hy : below s2 with ⟨⟨op2, nm2, n2, po2, ks2⟩, s4⟩
        simp [exCells_mk, hp1, hp2, hp3, hp4, hq1, hq2, hq3, hq4, m1, m2, m3, m4, m5, rds, heapF]
        refine ⟨?_, ?_, ?_, ?_⟩
        · subst hes
          exact ⟨by kernel_rfl, by kernel_rfl⟩
        · simp [Syn.un, ho, hdp, hy, ht]
          rw [exCells_mk]
          refine .agg (.cons (.old rfl) (.cons (.old rfl) (.cons (.old rfl) (.cons (.old rfl) (.cons ?_ .nil)))))
          have hkk : kidsV [Syn.Ex.mk op2 nm2 n2 po2 ks2] = .vsl (exsCells [Syn.Ex.mk op2 nm2 n2 po2 ks2]) 1 := rfl
          rw [hkk]
          refine .sl (cs := exsCells [Syn.Ex.mk op2 nm2 n2 po2 ks2]) (by omega) ?_ ?_
          · simp [exsCells, exCells_mk, hp4, hq4, m1, m2, m3, m4, m5]
          · simp only [exsCells, exCells_mk]
            exact .old (by simp [AV.allLt, AV.idLt, kidsV_lt])
        · simp [Syn.un, ho, hdp, hy, hp1, hp2, hp3, hp4]
        · intro j x hjp hj
          obtain ⟨k1, k2, k3, k4⟩ := old j x hj
          simp [hj, hjp, k1, k2, k3, k4]
  · have ho' : Syn.one W s [[110, 111, 116], [45], [112, 114, 101]] = false := by simpa using ho
    simp [ho']
    refine does_use (hn _ s (by unfold PAt; simp [hp1, hp2]; exact h) hi) ?_
    rintro _ H2 ⟨rfl, rfl⟩
    rcases hy : prim s with ⟨⟨op, nm, n, po, ks⟩, s4⟩
    simp [exCells_mk, hp1, hp2, hq1, hq2, m1]
    refine ⟨?_, ?_, ?_⟩
    · simp [Syn.un, ho', hy]
      rw [exCells_mk]
      exact .old (by simp [AV.idLt, AV.allLt, kidsV_lt])
    · simp [Syn.un, ho', hy, hp1, hp2]
    · intro j x hjp hj
      obtain ⟨k1, k2, k3, k4⟩ := old j x hj
      simp [hj, hjp, k1, k2, k3, k4]
end Go.Proofs.YtpnjkagghmoamaaGreatDoor

namespace Go.Proofs.YtpnjkagghmoamaaGreatDoor
open Go Go.Abs Go.Lex
set_option linter.unusedSimpArgs false
variable {G : Nat → Option AV}
theorem part_mu {W : Syn.Ws} {s : Syn.St} (hi : s.i < W.length) (h0 : s.err = 0) : mu W (Syn.part W s) < mu W s := by
  have e1 : mu W s = W.length - s.i := by unfold mu; rw [if_pos h0]
  rw [e1]
  unfold Syn.part
  simp only
  by_cases hc : 300 < Syn.wrap (s.parts + 1)
  · simp only [hc, if_true]
    have := fail_err W (e := 2) (by omega) { s with parts := Syn.wrap (s.parts + 1) }
    rw [if_neg this]
    unfold mu
    rw [if_neg this]
    omega
  · simp only [hc, if_false, h0, if_true]
    unfold mu
    simp only [h0, if_true]
    omega
set_option maxHeartbeats 4000000 in
set_option maxRecDepth 100000 in
theorem p_cmp {W : Syn.Ws} (hW : WsOk W) {p : Nat} {d : Int} {next : Syn.P} (hn : Reads G W p 263 d next) (hk : Keeps W next) : Reads G W p 221 d (Syn.cmp W next) := by
  intro H s h hi
  refine PRes.deep h ?_
  refine Does.wf Tryz.call221 fun hw _ => ?_
  have old : ∀ j x, H.get j = some x → j ≠ H.next ∧ j ≠ H.next + 1 ∧ j ≠ H.next + 1 + 1 ∧ j ≠ H.next + 1 + 1 + 1 ∧ j ≠ H.next + 1 + 1 + 1 + 1 := fun j x hj => by have := next_lt hw hj; omega
  refine does_f Tryz.call221 Tryz.func221 rfl (by simp [Tryz.f221]) ?_
  obtain ⟨hp1, hp2, hp3, hp4, hp5⟩ := old _ _ h
  have hq1 := Ne.symm hp1
  have hq2 := Ne.symm hp2
  have hq3 := Ne.symm hp3
  have hq4 := Ne.symm hp4
  have hq5 := Ne.symm hp5
  have m1 : H.next ≠ H.next + 1 := by omega
  have m2 : H.next ≠ H.next + 1 + 1 := by omega
  have m3 : H.next ≠ H.next + 1 + 1 + 1 := by omega
  have m4 : H.next + 1 ≠ H.next + 1 + 1 + 1 := by omega
  have m5 : H.next + 1 + 1 + 1 ≠ H.next := by omega
  have m6 : H.next ≠ H.next + 1 + 1 + 1 + 1 := by omega
  have m7 : H.next + 1 ≠ H.next + 1 + 1 + 1 + 1 := by omega
  have m8 : H.next + 1 + 1 + 1 + 1 ≠ H.next := by omega
  have m9 : H.next + 1 + 1 + 1 + 1 ≠ H.next + 1 := by omega
  simp
  refine does_use (hn _ s (by unfold PAt; simp [hp1]; exact h) hi) ?_
  rintro _ H1 ⟨rfl, rfl⟩
  have hi1 := hk.i s hi
  rcases hx : next s with ⟨⟨op, nm, n, po, ks⟩, s1⟩
  rw [hx] at hi1
  simp only at hi1
  simp [exCells_mk, hp1, hq1]
  refine does_use (p_one (W := W) (s := s1) (by unfold PAt; simp [hp2, hp3]) hi1 [[61], [60, 62], [60], [60, 61], [62], [62, 61]] (H.next + 1 + 1) 6 false (by simp) (by simp)) ?_
  rintro _ H2 ⟨rfl, rfl⟩
  by_cases ho : Syn.one W s1 [[61], [60, 62], [60], [60, 61], [62], [62, 61]] = true
  · have hk1 := one_kind ho
    simp [ho]
    refine does_use (p_part hW (W := W) (s := s1) (by unfold PAt; simp [hp2, hp3]) hi1) ?_
    rintro _ H3 ⟨rfl, rfl⟩
    have hi2 := part_ok hW hi1 hk1.2
    simp [wdCells, hp1, hp2, hp3, hp4, hq1, hq2, hq3, hq4, m1, m2, m3, m4]
    refine aw_drawn [(1, 0), (1, 8), (3, 0), (3, 8), (4, 0), (4, 8)] mixedOrders (by kernel_rfl) ?_
    intro es hes
    simp [hp1, hp2, hp3, hp4, hq1, hq2, hq3, hq4, m1, m2, m3, m4]
    refine ⟨_, _, hn _ (Syn.part W s1) (by unfold PAt; simp [hp4]) hi2, by simp, ?_⟩
    rcases hy : next (Syn.part W s1) with ⟨⟨op2, nm2, n2, po2, ks2⟩, s4⟩
    simp [exCells_mk, hp1, hp2, hp3, hp4, hp5, hq1, hq2, hq3, hq4, hq5, m1, m2, m3, m4, m5, m6, m7, m8, m9, rds, heapF]
    refine ⟨?_, ?_, ?_, ?_⟩
    · subst hes
      exact ⟨by kernel_rfl, by kernel_rfl⟩
    · simp [Syn.cmp, hx, ho, hy]
      rw [exCells_mk]
      refine .agg (.cons (.old rfl) (.cons (.old rfl) (.cons (.old rfl) (.cons (.old rfl) (.cons ?_ .nil)))))
      have hkk : kidsV [Syn.Ex.mk op nm n po ks, Syn.Ex.mk op2 nm2 n2 po2 ks2] = .vsl (exsCells [Syn.Ex.mk op nm n po ks, Syn.Ex.mk op2 nm2 n2 po2 ks2]) 2 := rfl
      rw [hkk]
      refine .sl (cs := exsCells [Syn.Ex.mk op nm n po ks, Syn.Ex.mk op2 nm2 n2 po2 ks2]) (by omega) ?_ ?_
      · simp [exsCells, exCells_mk, hp5, hq5, m1, m2, m3, m4, m5, m6, m7, m8, m9]
      · simp only [exsCells, exCells_mk]
        exact .old (by simp [AV.allLt, AV.idLt, kidsV_lt])
    · simp [Syn.cmp, hx, ho, hy, hp1, hp2, hp3, hp4, hp5]
    · intro j x hjp hj
      obtain ⟨k1, k2, k3, k4, k5⟩ := old j x hj
      simp [hj, hjp, k1, k2, k3, k4, k5]
  · have ho' : Syn.one W s1 [[61], [60, 62], [60], [60, 61], [62], [62, 61]] = false := by simpa using ho
    simp [ho', hp1, hp2, hp3, hq1, hq2, hq3, m1, m2]
    refine ⟨?_, ?_, ?_⟩
    · simp [Syn.cmp, hx, ho']
      rw [exCells_mk]
      exact .old (by simp [AV.idLt, AV.allLt, kidsV_lt])
    · simp [Syn.cmp, hx, ho', hp1, hp2, hp3]
    · intro j x hjp hj
      obtain ⟨k1, k2, k3, k4, k5⟩ := old j x hj
      simp [hj, hjp, k1, k2, k3]
def ExAt (H : AHeap) (c n : Nat) (e : Syn.Ex) : Prop := ∃ (op nm : Bs) (k po : Int) (kv : AV), H.get c = some (.cells [.str op, .str nm, .int .i64 k, .int .i64 po, kv]) ∧ kv.scalar = true ∧ kv.cells = [kv] ∧ ResL H.get n [.str op, .str nm, .int .i64 k, .int .i64 po, kv] (exCells e)
set_option maxHeartbeats 4000000 in
set_option maxRecDepth 100000 in
theorem p_row {W : Syn.Ws} (hW : WsOk W) {p : Nat} {nf : FuncId} {d : Int} {next : Syn.P} (hn : Reads G W p nf d next) (hk : Keeps W next) (H : AHeap) (s : Syn.St) (h : PAt H p W s) (hi : s.i < W.length)
    (ts : List Bs) (j cap : Nat) (opn : Bool) (hj : H.get j = some (.cells (ts.map .str))) (hjp : j ≠ p) (hl : ts.length ≤ 1000) :
    Does Tryz.prog G 163 [.ptr p 0, .int .i64 d, .func (.func nf) [.ptr p 0] [], .sl j 0 1 ts.length cap opn] H fun r H' => r = .agg (exCells (Syn.row W next ts s).1) ∧ H' = H.set p (.cells (stCells W (Syn.row W next ts s).2)) := by
  refine PRes.deep h ?_
  refine Does.wf Tryz.call163 fun hw _ => ?_
  have old : ∀ j x, H.get j = some x → j < H.next := fun j x hj => next_lt hw hj
  refine does_f Tryz.call163 Tryz.func163 rfl (by simp [Tryz.f163]) ?_
  have hpl := old _ _ h
  have hjl := old _ _ hj
  have hp1 : p ≠ H.next := by omega
  have hp2 : p ≠ H.next + 1 := by omega
  have hq1 := Ne.symm hp1
  have hq2 := Ne.symm hp2
  have hj1 : j ≠ H.next := by omega
  have hj2 : j ≠ H.next + 1 := by omega
  have m1 : H.next ≠ H.next + 1 := by omega
  simp
  refine does_use (hn _ s (by unfold PAt; simp [hp1]; exact h) hi) ?_
  rintro _ H1 ⟨rfl, rfl⟩
  have hi1 := hk.i s hi
  rcases hx : next s with ⟨⟨op, nm, n, po, ks⟩, s1⟩
  rw [hx] at hi1
  simp only at hi1
  simp [exCells_mk, hp1, hq1]
  refine aws_loopw (fun m T' H' => ∃ e s', Syn.rowL W next ts m e s' = Syn.rowL W next ts (W.length + 1) (.mk op nm n po ks) s1 ∧ mu W s' < m ∧ s'.i < W.length ∧
    T' 0 = .ptr p 0 ∧ T' 1 = .int .i64 d ∧ T' 2 = .func (.func nf) [.ptr p 0] [] ∧ T' 3 = .sl j 0 1 ts.length cap opn ∧ T' 8 = .ptr H.next 0 ∧ T' 9 = .ptr (H.next + 1) 0 ∧ PAt H' p W s' ∧ ExAt H' (H.next + 1) (H.next + 2) e ∧
    H'.get H.next = some (.cells [.str [], .str [], .int .i64 0, .int .i64 0, .nilsl]) ∧ (∀ x y, x ≠ p → H.get x = some y → H'.get x = some y)) (W.length + 1) ?_ ?_
  · refine ⟨_, _, rfl, ?_, hi1, by simp, by simp, by simp, by simp, by simp, by simp, by unfold PAt; simp [hp2], ?_, by simp [hp1, hq1], fun x y hxp hxy => ?_⟩
    · unfold mu; split <;> omega
    · refine ⟨op, nm, n, po, kidsV ks, by simp, by simp, by simp, ?_⟩
      rw [exCells_mk]
      exact .old (by simp [AV.idLt, AV.allLt, kidsV_lt])
    · have := old x y hxy
      have k1 : x ≠ H.next := by omega
      have k2 : x ≠ H.next + 1 := by omega
      simp [hxy, hxp, k1, k2]
  rintro m T H1 ⟨e, s', hrow, hmu, hi', t0, t1, t2, t3, t8, t9, hP, ⟨eo, en, ek, ep, kv, hE, hkv1, hkv2, hres⟩, hZ, hkeep⟩ hw1 _
  have hjj := hkeep _ _ hjp hj
  have hN := next_lt hw1 hE
  have hp3 : p ≠ H1.next := by omega
  have hp4 : p ≠ H1.next + 1 := by omega
  have hq3 := Ne.symm hp3
  have hq4 := Ne.symm hp4
  have n1 : H.next ≠ H1.next := by omega
  have n2 : H.next + 1 ≠ H1.next := by omega
  have n3 : H.next ≠ H1.next + 1 := by omega
  have n4 : H.next + 1 ≠ H1.next + 1 := by omega
  have n5 := Ne.symm n1
  have n6 := Ne.symm n2
  have n7 := Ne.symm n3
  have n8 := Ne.symm n4
  obtain ⟨k, rfl⟩ : ∃ k, m = k + 1 := ⟨m - 1, by omega⟩
  simp [t0, t1, t2, t3, t8, t9]
  refine does_use (p_one hP hi' ts j cap opn hjj hl) ?_
  rintro _ H2 ⟨rfl, rfl⟩
  by_cases ho : Syn.one W s' ts = true
  · have hk1 := one_kind ho
    simp [ho, t0, t1, t2, t3, t8, t9]
    refine does_use (p_part hW hP hi') ?_
    rintro _ H3 ⟨rfl, rfl⟩
    have hi2 := part_ok hW hi' hk1.2
    simp [wdCells, t0, t1, t2, t3, t8, t9, hp3, hq3]
    refine aw_drawn [(1, 0), (1, 8), (3, 0), (3, 8), (4, 0), (4, 8)] mixedOrders (by kernel_rfl) ?_
    intro es hes
    simp [t0, t1, t2, t3, t8, t9, hp1, hp2, hp3, hq1, hq2, hq3, n1, n2, n5, n6, hE]
    refine ⟨_, _, hn _ (Syn.part W s') (by unfold PAt; simp [hp3]) hi2, by simp, ?_⟩
    have hi4 := hk.i (Syn.part W s') hi2
    have hm4 := hk.mu (Syn.part W s') hi2
    rcases hy : next (Syn.part W s') with ⟨⟨op2, nm2, n2', po2, ks2⟩, s4⟩
    rw [hy] at hi4 hm4
    simp only at hi4 hm4
    simp [exCells_mk, t0, t1, t2, t3, t8, t9, hp1, hp2, hp3, hp4, hq1, hq2, hq3, hq4, n1, n2, n3, n4, n5, n6, n7, n8, hE, hkv1, hkv2, hZ, rds, heapF]
    refine ⟨?_, ?_⟩
    · subst hes
      exact ⟨by kernel_rfl, by kernel_rfl⟩
    have hm5 := part_mu hi' hk1.1
    have hlt1 := old _ _ h
    refine ⟨k, by omega, .mk (Syn.at_ W s').2.text [] 0 (Syn.at_ W s').1 [e, .mk op2 nm2 n2' po2 ks2], s4, by rw [← hrow]; simp [Syn.rowL, ho, hy], by omega, hi4, ?_, ?_, ?_⟩
    · unfold PAt
      simp [hp2, hp3, hp4]
    · refine ⟨_, _, _, _, _, by simp; exact ⟨rfl, rfl, rfl, rfl, rfl⟩, rfl, rfl, ?_⟩
      rw [exCells_mk]
      refine .cons (.old rfl) (.cons (.old rfl) (.cons (.old rfl) (.cons (.old rfl) (.cons ?_ .nil))))
      have hkk : kidsV [e, Syn.Ex.mk op2 nm2 n2' po2 ks2] = .vsl (exsCells [e, Syn.Ex.mk op2 nm2 n2' po2 ks2]) 2 := rfl
      rw [hkk]
      refine .sl (cs := [AV.str eo, AV.str en, AV.int IntKind.i64 ek, AV.int IntKind.i64 ep, kv, AV.str op2, AV.str nm2, AV.int IntKind.i64 ↑n2', AV.int IntKind.i64 ↑po2, kidsV ks2]) (by omega) (by simp [n1, n2, n3, n4, n5, n6, n7, n8, hp4, hq4]) ?_
      simp only [exsCells, List.append_nil]
      have hr2 := ResL.mono (g' := ((((((H2.set p (AObj.cells (stCells W (Syn.part W s')))).push (AObj.cells [AV.int IntKind.i64 0, AV.str [], AV.int IntKind.i64 0, AV.int IntKind.i64 0])).set H2.next (AObj.cells [AV.int IntKind.i64 ↑(Syn.at_ W s').snd.kind, AV.str (Syn.at_ W s').snd.text, AV.int IntKind.i64 ↑(Syn.at_ W s').snd.n, AV.int IntKind.i64 ↑(Syn.at_ W s').fst])).set p (AObj.cells (stCells W s4))).push (AObj.cells [AV.str eo, AV.str en, AV.int IntKind.i64 ek, AV.int IntKind.i64 ep, kv, AV.str op2, AV.str nm2, AV.int IntKind.i64 ↑n2', AV.int IntKind.i64 ↑po2, kidsV ks2])).set (H.next + 1) (AObj.cells [AV.str (Syn.at_ W s').snd.text, AV.str [], AV.int IntKind.i64 0, AV.int IntKind.i64 ↑(Syn.at_ W s').fst, AV.sl (H2.next + 1) 0 5 2 2 false])).get) (fun i cs hi hc => by
        have := next_lt hw1 hc
        have k1 : i ≠ H.next + 1 := by omega
        have k2 : i ≠ H2.next := by omega
        have k3 : i ≠ H2.next + 1 := by omega
        have k4 : i ≠ p := by omega
        simp [k1, k2, k3, k4, hc]) hres
      have hr3 : ResL ((((((H2.set p (AObj.cells (stCells W (Syn.part W s')))).push (AObj.cells [AV.int IntKind.i64 0, AV.str [], AV.int IntKind.i64 0, AV.int IntKind.i64 0])).set H2.next (AObj.cells [AV.int IntKind.i64 ↑(Syn.at_ W s').snd.kind, AV.str (Syn.at_ W s').snd.text, AV.int IntKind.i64 ↑(Syn.at_ W s').snd.n, AV.int IntKind.i64 ↑(Syn.at_ W s').fst])).set p (AObj.cells (stCells W s4))).push (AObj.cells [AV.str eo, AV.str en, AV.int IntKind.i64 ek, AV.int IntKind.i64 ep, kv, AV.str op2, AV.str nm2, AV.int IntKind.i64 ↑n2', AV.int IntKind.i64 ↑po2, kidsV ks2])).set (H.next + 1) (AObj.cells [AV.str (Syn.at_ W s').snd.text, AV.str [], AV.int IntKind.i64 0, AV.int IntKind.i64 ↑(Syn.at_ W s').fst, AV.sl (H2.next + 1) 0 5 2 2 false])).get (H.next + 2) [.str op2, .str nm2, .int .i64 n2', .int .i64 po2, kidsV ks2] (exCells (.mk op2 nm2 n2' po2 ks2)) := by
        rw [exCells_mk]
        exact .old (by simp [AV.allLt, AV.idLt, kidsV_lt])
      exact hr2.append hr3
    · intro x y hxp hxy
      have := old x y hxy
      have k1 : x ≠ H.next + 1 := by omega
      have k2 : x ≠ H2.next := by omega
      have k3 : x ≠ H2.next + 1 := by omega
      simp [hxp, k1, k2, k3, hkeep x y hxp hxy]
  · have ho' : Syn.one W s' ts = false := by simpa using ho
    have hfin : Syn.row W next ts s = (e, s') := by
      simp only [Syn.row, hx]
      rw [← hrow]
      simp [Syn.rowL, ho']
    simp [ho', t0, t1, t2, t3, t8, t9, hE, hZ, hkv1, hkv2, m1]
    refine ⟨?_, ?_, ?_⟩
    · rw [hfin]
      refine .agg (ResL.down (n := H.next + 2) (by omega) (ResL.mono (fun i cs hi hc => ?_) hres) (exCells_lt _ _))
      have : i ≠ H.next := by omega
      simp [this, hc]
    · rw [hfin]
      simp [hp1]
      exact hP
    · intro x y hxp hxy
      have := old x y hxy
      have k1 : x ≠ H.next := by omega
      simp [k1, hkeep x y hxp hxy]
end Go.Proofs.YtpnjkagghmoamaaGreatDoor
