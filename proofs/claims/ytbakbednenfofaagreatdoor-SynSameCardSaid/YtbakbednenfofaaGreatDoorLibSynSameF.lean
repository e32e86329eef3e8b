/-
  Own library of this claim, part 6: texts one behind the other (WrH, WrI, BrI, SyL, WrL, WrS, WrT).
-/
import Derived.Test.YtbakbednenfofaaGreatDoorLibSynSameE

namespace Go.Proofs.YtbakbednenfofaaGreatDoor
open Go Go.Abs Go.Lex
set_option linter.unusedSimpArgs false
set_option linter.unusedVariables false
variable {G : Nat → Option AV}
theorem join_vs : ∀ l : List Syn.Va, Lib.join (l.map Syn.vT) [59, 32] = Syn.vsT l
  | [] => rfl
  | [v] => by rw [List.map_cons, List.map_nil, Lib.join_one]; rfl
  | v :: u :: l => by
    have h := join_vs (u :: l)
    rw [List.map_cons, Lib.join_cons] at h
    rw [List.map_cons, Lib.join_cons, List.map_cons, Syn.vsT, ← h]
    rfl
theorem join_w {ts : List Bs} {s : Bs} {i cap : Nat} {opn : Bool} {H : AHeap} (hi : H.get i = some (.cells (ts.map AV.str))) (hN : ts.length ≤ 140737488355328) (hlen : (Lib.join ts s).length ≤ 140737488355328) :
    Does Tryz.prog G 36 [.sl i 0 1 ts.length cap opn, .str s] H fun r h => r = .str (Lib.join ts s) ∧ h = H :=
  join_does Tryz.call36 (Any.strings_Join shJoin shJoinX) (R := []) (by rw [List.append_nil]; exact hi) hN hlen
theorem join_0 {s : Bs} {H : AHeap} : Does Tryz.prog G 36 [.nilsl, .str s] H fun r h => r = .str [] ∧ h = H :=
  join_none Tryz.call36 (Any.strings_Join_none shJoin shJoinX)
set_option maxHeartbeats 8000000 in
set_option maxRecDepth 100000 in
theorem decls_wr {l : List Syn.Va} (hw0 : ∀ v ∈ l, Syn.WfL v) (hlen : l.length ≤ 1000000) (H : AHeap) : Does Tryz.prog G 17 [vsV l] H fun r h => r = .str (Syn.vsT l) ∧ h = H := by
  refine Does.forgot (R := fun r h => r = .str (Syn.vsT l) ∧ ∀ j x, H.get j = some x → h.get j = some x) ?_ fun _ _ r H1 ⟨h1, h2⟩ => ⟨h2, by rw [h1]; rfl, h1, rfl⟩
  refine Does.wf Tryz.call17 fun hw _ => ?_
  refine does_f Tryz.call17 Tryz.func17 rfl (by simp [Tryz.f17]) ?_
  have hal : alen Tryz.prog 34 (vsV l) = some (.int .i64 l.length) := by
    unfold vsV
    cases l with
    | nil => rfl
    | cons e l => rfl
  simp [hal, -alen]
  refine aws_loopw (fun k T' H' => ∃ i : Nat, i + k = l.length ∧ T' 8 = vsV l ∧ T' 9 = .int .i64 l.length ∧ T' 10 = .int .i64 i ∧ (∀ j x, H.get j = some x → H'.get j = some x) ∧ H.next ≤ H'.next ∧
    ((i = 0 ∧ T' 3 = .nilsl) ∨ 0 < i ∧ ∃ b, T' 3 = .sl b 0 1 i i true ∧ H.next ≤ b ∧ H'.get b = some (.cells (((l.take i).map Syn.vT).map AV.str)))) l.length ⟨0, by simp, by simp, by simp, by simp, fun _ _ h => h, Nat.le_refl _, .inl ⟨rfl, by simp⟩⟩ ?_
  rintro k T H1 ⟨i, hik, t8, t9, t10, hk, hn, hout⟩ hw1 _
  by_cases hi : i < l.length
  · have hii : (i : Int) < l.length := by omega
    have hv : l[i]? = some l[i] := List.getElem?_eq_getElem hi
    have hm : l[i] ∈ l := List.getElem_mem hi
    obtain ⟨P, hP⟩ : ∃ P, P = ((l.take i).map Syn.vT).map AV.str := ⟨_, rfl⟩
    have htk : List.take (i + 1) (List.map (AV.str ∘ Syn.vT) l) = P ++ [.str (Syn.vT l[i])] := by
      rw [hP, ← List.map_map, ← List.map_take, ← List.map_take, List.take_add_one, hv, List.map_append, List.map_append]; rfl
    have htl : P.length = i := by rw [hP]; simp; omega
    rw [← hP] at hout
    generalize l[i] = v at *
    obtain ⟨c0, c1, c2, c3, c5⟩ := vas_at hv
    have hvv := hw0 v hm
    have hvl := Syn.vl_tlen hvv
    have hkv : vsV l = .vsl (vasCells l) l.length := by unfold vsV; rw [if_neg (by cases l <;> simp_all)]
    rw [hkv] at t8 hal
    have wr : IntKind.i64.wrap ((i : Int) + 1) = ((i + 1 : Nat) : Int) := by rw [IntWalk.i64_in _ (by omega)]; omega
    have hat : ((vasCells l).drop (i * 5)).take 5 = vaCells v := va_take hv
    have hk12 : v.kind = 1 ∨ v.kind = 2 := by
      obtain ⟨w, h⟩ := hvv
      have key : ∀ {nm : Bs} {k pos : Nat} {w : List Wd}, Syn.Vd ⟨nm, k, [], false, pos⟩ w → k = 1 ∨ k = 2 := by
        intro nm k pos w h
        cases h with
        | bool h => exact .inl rfl
        | int h => exact .inr rfl
      cases h with
      | no h => cases h with
        | bool h => exact .inl rfl
        | int h => exact .inr rfl
      | on h ho => exact key h
      | off h ho => exact key h
    obtain ⟨nm, kd, on, ng, pos⟩ := v
    simp only at c0 c1 c2 c3 hk12 hvl
    simp only [vaCells] at hat
    have hnl : nm.length ≤ 64 := by simp only [Syn.vT, List.length_append, List.length_cons] at hvl; omega
    have hol : on.length ≤ 64 := by
      by_cases ho : on = []
      · subst ho; simp
      · simp only [Syn.vT, if_neg ho, List.length_append, List.length_cons] at hvl; omega
    clear hvl hvv hm hv
    rcases hout with ⟨rfl, t3⟩ | ⟨h0, b, t3, hb, hg⟩
    · obtain rfl : P = [] := List.length_eq_zero_iff.1 htl
      have hat' : List.take 5 (vasCells l) = [.str nm, .int .i64 kd, .str on, .bool ng, .int .i64 pos] := by simpa using hat
      have h5' : 5 ≤ (vasCells l).length := by omega
      rcases hk12 with rfl | rfl
      · by_cases ho : on = []
        · subst ho
          simp [t3, t8, t9, t10, hal, hi, hii, hat', h5', -alen]
          iterate 4 (try (rw [if_pos (by first | omega | (simp only [List.length_append, List.length_cons, List.length_nil]; omega))]; simp [t3, t8, t9, t10, hal, hi, hii, hat', h5', -alen]))
          exact ⟨k - 1, by omega, 1, by omega, hkv.symm, wr, fun j x hj => by have := (hw _ _ hj).1; exact (if_neg (by omega)).trans ((if_neg (by omega)).trans ((if_neg (by omega)).trans (hk j x hj))), by omega, by omega, H1.next + 1 + 1, ⟨rfl, rfl⟩, by omega, (if_pos rfl).trans (by rw [htk]; simp [Syn.vT, Syn.sBool, Syn.sInt, Syn.sWhen, Syn.sNot])⟩
        · have ho1 : (on == []) = false := by simpa using ho
          cases ng with
          | true =>
            simp [t3, t8, t9, t10, hal, hi, hii, hat', h5', ho1, -alen]
            iterate 5 (try (rw [if_pos (by first | omega | (simp only [List.length_append, List.length_cons, List.length_nil]; omega))]; simp [t3, t8, t9, t10, hal, hi, hii, hat', h5', ho1, -alen]))
            exact ⟨k - 1, by omega, 1, by omega, hkv.symm, wr, fun j x hj => by have := (hw _ _ hj).1; exact (if_neg (by omega)).trans ((if_neg (by omega)).trans ((if_neg (by omega)).trans (hk j x hj))), by omega, by omega, H1.next + 1 + 1, ⟨rfl, rfl⟩, by omega, (if_pos rfl).trans (by rw [htk]; simp [Syn.vT, Syn.sBool, Syn.sInt, Syn.sWhen, Syn.sNot, ho])⟩
          | false =>
            simp [t3, t8, t9, t10, hal, hi, hii, hat', h5', ho1, -alen]
            iterate 5 (try (rw [if_pos (by first | omega | (simp only [List.length_append, List.length_cons, List.length_nil]; omega))]; simp [t3, t8, t9, t10, hal, hi, hii, hat', h5', ho1, -alen]))
            exact ⟨k - 1, by omega, 1, by omega, hkv.symm, wr, fun j x hj => by have := (hw _ _ hj).1; exact (if_neg (by omega)).trans ((if_neg (by omega)).trans ((if_neg (by omega)).trans (hk j x hj))), by omega, by omega, H1.next + 1 + 1, ⟨rfl, rfl⟩, by omega, (if_pos rfl).trans (by rw [htk]; simp [Syn.vT, Syn.sBool, Syn.sInt, Syn.sWhen, Syn.sNot, ho])⟩
      · by_cases ho : on = []
        · subst ho
          simp [t3, t8, t9, t10, hal, hi, hii, hat', h5', -alen]
          iterate 4 (try (rw [if_pos (by first | omega | (simp only [List.length_append, List.length_cons, List.length_nil]; omega))]; simp [t3, t8, t9, t10, hal, hi, hii, hat', h5', -alen]))
          exact ⟨k - 1, by omega, 1, by omega, hkv.symm, wr, fun j x hj => by have := (hw _ _ hj).1; exact (if_neg (by omega)).trans ((if_neg (by omega)).trans ((if_neg (by omega)).trans (hk j x hj))), by omega, by omega, H1.next + 1 + 1, ⟨rfl, rfl⟩, by omega, (if_pos rfl).trans (by rw [htk]; simp [Syn.vT, Syn.sBool, Syn.sInt, Syn.sWhen, Syn.sNot])⟩
        · have ho1 : (on == []) = false := by simpa using ho
          cases ng with
          | true =>
            simp [t3, t8, t9, t10, hal, hi, hii, hat', h5', ho1, -alen]
            iterate 5 (try (rw [if_pos (by first | omega | (simp only [List.length_append, List.length_cons, List.length_nil]; omega))]; simp [t3, t8, t9, t10, hal, hi, hii, hat', h5', ho1, -alen]))
            exact ⟨k - 1, by omega, 1, by omega, hkv.symm, wr, fun j x hj => by have := (hw _ _ hj).1; exact (if_neg (by omega)).trans ((if_neg (by omega)).trans ((if_neg (by omega)).trans (hk j x hj))), by omega, by omega, H1.next + 1 + 1, ⟨rfl, rfl⟩, by omega, (if_pos rfl).trans (by rw [htk]; simp [Syn.vT, Syn.sBool, Syn.sInt, Syn.sWhen, Syn.sNot, ho])⟩
          | false =>
            simp [t3, t8, t9, t10, hal, hi, hii, hat', h5', ho1, -alen]
            iterate 5 (try (rw [if_pos (by first | omega | (simp only [List.length_append, List.length_cons, List.length_nil]; omega))]; simp [t3, t8, t9, t10, hal, hi, hii, hat', h5', ho1, -alen]))
            exact ⟨k - 1, by omega, 1, by omega, hkv.symm, wr, fun j x hj => by have := (hw _ _ hj).1; exact (if_neg (by omega)).trans ((if_neg (by omega)).trans ((if_neg (by omega)).trans (hk j x hj))), by omega, by omega, H1.next + 1 + 1, ⟨rfl, rfl⟩, by omega, (if_pos rfl).trans (by rw [htk]; simp [Syn.vT, Syn.sBool, Syn.sInt, Syn.sWhen, Syn.sNot, ho])⟩
    · have h5 : 5 ≤ (vasCells l).length - i * 5 := by omega
      have q1 := (hw1 _ _ hg).1
      have e1 : b ≠ H1.next := by omega
      have e2 : b ≠ H1.next + 1 := by omega
      have e3 : ¬ (i + 1 ≤ i) := by omega
      have e4 : (i + 1) * 16 ≤ 140737488355328 := by omega
      have e5 : i + 1 ≤ 4611686018427387904 := by omega
      have e6 : List.take i P = P := List.take_of_length_le (by omega)
      rcases hk12 with rfl | rfl
      · by_cases ho : on = []
        · subst ho
          simp [t3, t8, t9, t10, hal, hi, hii, hat, h5, hg, htl, e1, e2, e3, e4, e5, e6, -alen]
          iterate 4 (try (rw [if_pos (by first | omega | (simp only [List.length_append, List.length_cons, List.length_nil]; omega))]; simp [t3, t8, t9, t10, hal, hi, hii, hat, h5, hg, htl, e1, e2, e3, e4, e5, e6, -alen]))
          exact ⟨k - 1, by omega, i + 1, by omega, hkv.symm, wr, fun j x hj => by have := (hw _ _ hj).1; exact (if_neg (by omega)).trans ((if_neg (by omega)).trans ((if_neg (by omega)).trans ((if_neg (by omega)).trans (hk j x hj)))), by omega, by omega, H1.next + 1 + 1, ⟨rfl, rfl⟩, by omega, (if_pos rfl).trans (by rw [htk]; simp [Syn.vT, Syn.sBool, Syn.sInt, Syn.sWhen, Syn.sNot])⟩
        · have ho1 : (on == []) = false := by simpa using ho
          cases ng with
          | true =>
            simp [t3, t8, t9, t10, hal, hi, hii, hat, h5, hg, htl, e1, e2, e3, e4, e5, e6, ho1, -alen]
            iterate 5 (try (rw [if_pos (by first | omega | (simp only [List.length_append, List.length_cons, List.length_nil]; omega))]; simp [t3, t8, t9, t10, hal, hi, hii, hat, h5, hg, htl, e1, e2, e3, e4, e5, e6, ho1, -alen]))
            exact ⟨k - 1, by omega, i + 1, by omega, hkv.symm, wr, fun j x hj => by have := (hw _ _ hj).1; exact (if_neg (by omega)).trans ((if_neg (by omega)).trans ((if_neg (by omega)).trans ((if_neg (by omega)).trans (hk j x hj)))), by omega, by omega, H1.next + 1 + 1, ⟨rfl, rfl⟩, by omega, (if_pos rfl).trans (by rw [htk]; simp [Syn.vT, Syn.sBool, Syn.sInt, Syn.sWhen, Syn.sNot, ho])⟩
          | false =>
            simp [t3, t8, t9, t10, hal, hi, hii, hat, h5, hg, htl, e1, e2, e3, e4, e5, e6, ho1, -alen]
            iterate 5 (try (rw [if_pos (by first | omega | (simp only [List.length_append, List.length_cons, List.length_nil]; omega))]; simp [t3, t8, t9, t10, hal, hi, hii, hat, h5, hg, htl, e1, e2, e3, e4, e5, e6, ho1, -alen]))
            exact ⟨k - 1, by omega, i + 1, by omega, hkv.symm, wr, fun j x hj => by have := (hw _ _ hj).1; exact (if_neg (by omega)).trans ((if_neg (by omega)).trans ((if_neg (by omega)).trans ((if_neg (by omega)).trans (hk j x hj)))), by omega, by omega, H1.next + 1 + 1, ⟨rfl, rfl⟩, by omega, (if_pos rfl).trans (by rw [htk]; simp [Syn.vT, Syn.sBool, Syn.sInt, Syn.sWhen, Syn.sNot, ho])⟩
      · by_cases ho : on = []
        · subst ho
          simp [t3, t8, t9, t10, hal, hi, hii, hat, h5, hg, htl, e1, e2, e3, e4, e5, e6, -alen]
          iterate 4 (try (rw [if_pos (by first | omega | (simp only [List.length_append, List.length_cons, List.length_nil]; omega))]; simp [t3, t8, t9, t10, hal, hi, hii, hat, h5, hg, htl, e1, e2, e3, e4, e5, e6, -alen]))
          exact ⟨k - 1, by omega, i + 1, by omega, hkv.symm, wr, fun j x hj => by have := (hw _ _ hj).1; exact (if_neg (by omega)).trans ((if_neg (by omega)).trans ((if_neg (by omega)).trans ((if_neg (by omega)).trans (hk j x hj)))), by omega, by omega, H1.next + 1 + 1, ⟨rfl, rfl⟩, by omega, (if_pos rfl).trans (by rw [htk]; simp [Syn.vT, Syn.sBool, Syn.sInt, Syn.sWhen, Syn.sNot])⟩
        · have ho1 : (on == []) = false := by simpa using ho
          cases ng with
          | true =>
            simp [t3, t8, t9, t10, hal, hi, hii, hat, h5, hg, htl, e1, e2, e3, e4, e5, e6, ho1, -alen]
            iterate 5 (try (rw [if_pos (by first | omega | (simp only [List.length_append, List.length_cons, List.length_nil]; omega))]; simp [t3, t8, t9, t10, hal, hi, hii, hat, h5, hg, htl, e1, e2, e3, e4, e5, e6, ho1, -alen]))
            exact ⟨k - 1, by omega, i + 1, by omega, hkv.symm, wr, fun j x hj => by have := (hw _ _ hj).1; exact (if_neg (by omega)).trans ((if_neg (by omega)).trans ((if_neg (by omega)).trans ((if_neg (by omega)).trans (hk j x hj)))), by omega, by omega, H1.next + 1 + 1, ⟨rfl, rfl⟩, by omega, (if_pos rfl).trans (by rw [htk]; simp [Syn.vT, Syn.sBool, Syn.sInt, Syn.sWhen, Syn.sNot, ho])⟩
          | false =>
            simp [t3, t8, t9, t10, hal, hi, hii, hat, h5, hg, htl, e1, e2, e3, e4, e5, e6, ho1, -alen]
            iterate 5 (try (rw [if_pos (by first | omega | (simp only [List.length_append, List.length_cons, List.length_nil]; omega))]; simp [t3, t8, t9, t10, hal, hi, hii, hat, h5, hg, htl, e1, e2, e3, e4, e5, e6, ho1, -alen]))
            exact ⟨k - 1, by omega, i + 1, by omega, hkv.symm, wr, fun j x hj => by have := (hw _ _ hj).1; exact (if_neg (by omega)).trans ((if_neg (by omega)).trans ((if_neg (by omega)).trans ((if_neg (by omega)).trans (hk j x hj)))), by omega, by omega, H1.next + 1 + 1, ⟨rfl, rfl⟩, by omega, (if_pos rfl).trans (by rw [htk]; simp [Syn.vT, Syn.sBool, Syn.sInt, Syn.sWhen, Syn.sNot, ho])⟩
  · obtain rfl : i = l.length := by omega
    have e1 : l.take l.length = l := List.take_of_length_le (Nat.le_refl _)
    rw [e1] at hout
    have hsl := Syn.vs_tlen hw0
    rcases hout with ⟨h0, t3⟩ | ⟨h0, b, t3, hb, hg⟩
    · obtain rfl : l = [] := List.length_eq_zero_iff.1 h0
      simp [t3, t8, t9, t10, -alen]
      refine does_use join_0 ?_
      rintro r h ⟨rfl, rfl⟩
      simp [-alen]
      exact ⟨rfl, hk⟩
    · simp [t3, t8, t9, t10, -alen]
      have hj := join_w (G := G) (ts := l.map Syn.vT) (s := [59, 32]) (cap := l.length) (opn := true) hg (by simp; omega) (by rw [join_vs]; omega)
      rw [List.length_map, join_vs] at hj
      refine does_use hj ?_
      rintro r h ⟨rfl, rfl⟩
      simp [-alen]
      exact hk
end Go.Proofs.YtbakbednenfofaaGreatDoor

namespace Go.Proofs.YtbakbednenfofaaGreatDoor
open Go Go.Abs Go.Lex
open Go.Syn (Ex Nd Eqn Va)
set_option linter.unusedSimpArgs false
set_option linter.unusedVariables false
variable {G : Nat → Option AV}
theorem wr_next {H0 H1 H2 : AHeap} {p : Nat} {t s : Bs} {b : Option Nat} (hw0 : H0.Wf) (h : Wr WT UT H0 p none t H1 []) (g : WAt WT UT H1 p b t) (h2 : Wr WT UT H1 p b s H2 t) : Wr WT UT H0 p none (t ++ s) H2 [] :=
  h.then hw0 fun b' hb' => (WAt.uniq g (show WAt WT UT H1 p b' t from hb')) ▸ h2
theorem WAt.ltl {T e : TypeId} {H : AHeap} {i : Nat} {buf : Option Nat} {acc : Bs} (hw : Lts H) (h : WAt T e H i buf acc) : i < H.next ∧ ∀ j, buf = some j → j < H.next := by
  obtain ⟨c0, c1, h1, h2, h3⟩ := h
  refine ⟨hw _ _ h1, fun j hj => ?_⟩
  rcases h3 with ⟨_, _, rfl⟩ | ⟨k, rfl, _, _, _, h4⟩
  · simp at hj
  · cases hj; exact hw _ _ h4
theorem lts_of {H : AHeap} (hw : H.Wf) : Lts H := fun i x h => (hw i x h).1
theorem wr_fresh {H0 H1 : AHeap} {p : Nat} {t : Bs} (hw1 : Lts H1) (h : Wr WT UT H0 p none t H1 []) : ∃ b, WAt WT UT H1 p b t ∧ p < H1.next ∧ (∀ j, b = some j → j < H1.next) := by
  obtain ⟨b, g1, g2, g3, g4⟩ := h
  have g1' : WAt WT UT H1 p b t := g1
  exact ⟨b, g1', (WAt.ltl hw1 g1').1, (WAt.ltl hw1 g1').2⟩
theorem wr_piece {H0 H1 H2 : AHeap} {p : Nat} {t s : Bs} {b : Option Nat} {x : AObj} (hw0 : H0.Wf) (hw1 : H1.Wf) (h : Wr WT UT H0 p none t H1 []) (g : WAt WT UT H1 p b t) (h2 : Wr WT UT (H1.push x) p b s H2 t) : Wr WT UT H0 p none (t ++ s) H2 [] ∧ H2.get H1.next = some x := by
  obtain ⟨l1, l2⟩ := WAt.lt hw1 g
  refine ⟨wr_next hw0 h g (wr_boxed hw1 g x h2), ?_⟩
  obtain ⟨b2, q1, q2, q3, q4⟩ := h2
  exact q4 _ _ (by omega) (fun e => by have := l2 _ e; omega) (if_pos rfl)
theorem wr_kept {H H' : AHeap} {p k : Nat} {b : Option Nat} {t s : Bs} {cs : List AV} (g : WAt WT UT H p b t) (hc : H.get k = some (.cells cs)) (h : Wr WT UT H p b s H' t) : H'.get k = some (.cells cs) := by
  obtain ⟨_, _, _, _, q⟩ := h
  obtain ⟨c0, c1, h1, _, h3⟩ := g
  refine q _ _ ?_ ?_ hc
  · rintro rfl
    rw [h1] at hc; simp at hc
  · rintro rfl
    rcases h3 with ⟨_, _, h3⟩ | ⟨j, h3, _, _, _, h4⟩
    · simp at h3
    · cases h3
      rw [h4] at hc; simp at hc
set_option maxHeartbeats 8000000 in
set_option maxRecDepth 100000 in
theorem show_wr (hG : PowG G) {l : List Nd} (hne : l ≠ []) (hwf : ∀ d ∈ l, Syn.WfN d) (hwt : Syn.ndsWt l ≤ 40000) (H : AHeap) : Does Tryz.prog G 7 [ndsV l] H fun r h => r = .str (Syn.showT l) ∧ h = H := by
  refine Does.forgot (R := fun r h => r = .str (Syn.showT l) ∧ ∀ j x, H.get j = some x → h.get j = some x) ?_ fun _ _ r H1 ⟨h1, h2⟩ => ⟨h2, by rw [h1]; rfl, h1, rfl⟩
  refine Does.wf Tryz.call7 fun hw _ => ?_
  refine does_f Tryz.call7 Tryz.func7 rfl (by simp [Tryz.f7]) ?_
  have hal : alen Tryz.prog 23 (.vsl (ndsCells l) l.length) = some (.int .i64 l.length) := rfl
  have hkv : ndsV l = .vsl (ndsCells l) l.length := by unfold ndsV; rw [if_neg (by intro e0; rw [List.isEmpty_iff] at e0; exact hne e0)]
  have hvs : ∀ l : List Va, alen Tryz.prog 34 (vsV l) = some (.int .i64 l.length) := by
    intro l
    unfold vsV
    cases l with
    | nil => rfl
    | cons e l => rfl
  have hes1 : ∀ l : List Eqn, alen Tryz.prog 35 (eqsV l) = some (.int .i64 l.length) := by
    intro l
    unfold eqsV
    cases l with
    | nil => rfl
    | cons e l => rfl
  have hvc : ∀ l : List Va, (vsV l).scalar = true ∧ (vsV l).cells = [vsV l] := by
    intro l; unfold vsV; split <;> exact ⟨rfl, rfl⟩
  have hec : ∀ l : List Eqn, (eqsV l).scalar = true ∧ (eqsV l).cells = [eqsV l] := by
    intro l; unfold eqsV; split <;> exact ⟨rfl, rfl⟩
  rw [hkv]
  have hsl := Syn.showT_len hwf
  have hll := nds_wt_len l
  simp [hal, -alen]
  obtain ⟨H0, hH0⟩ : ∃ H0, H0 = H.push (.row WT [.nilptr, .nilsl]) := ⟨_, rfl⟩
  rw [← show H0 = H.push (.row 61 [.nilptr, .nilsl]) from hH0]
  refine aw_wf fun hw0 _ => ?_
  have hp0 : H.next < H0.next := by rw [hH0]; exact Nat.lt_succ_self _
  have hW0 : WAt WT UT H0 H.next none [] := by
    rw [hH0]
    exact ⟨_, _, if_pos rfl, .inl rfl, .inl ⟨rfl, rfl, rfl⟩⟩
  have hk0 : ∀ j x, H.get j = some x → H0.get j = some x := by
    rw [hH0]; exact push_keep hw _
  have hT0 : H.next = H.next := rfl
  refine aws_loopw (fun m T' H' => ∃ i : Nat, i + m = l.length ∧ T' 10 = .vsl (ndsCells l) l.length ∧ T' 11 = .int .i64 l.length ∧ T' 12 = .int .i64 i ∧ T' 3 = .ptr H.next 0 ∧ Wr WT UT H0 H.next none (Syn.showT (l.take i)) H' []) l.length ⟨0, by simp, by simp, by simp, by simp, by simp, by simpa [hH0, Syn.showT] using Wr.refl hW0⟩ ?_
  rintro m T H1 ⟨i, him, t10, t11, t12, t3, hW⟩ hw1 _
  obtain ⟨p, hp⟩ : ∃ p, p = H.next := ⟨_, rfl⟩
  rw [← hp] at hW t3 hp0 hW0
  by_cases hlt : i < l.length
  · have hii : (i : Int) < l.length := by omega
    have hd : l[i]? = some l[i] := List.getElem?_eq_getElem hlt
    have hm : l[i] ∈ l := List.getElem_mem hlt
    have htk := Syn.showT_take hd
    have hle := Syn.showT_le (i + 1) l
    generalize l[i] = d at *
    have hat := nd_take hd
    have hdw := hwf d hm
    have hdt := nds_wt_mem hm
    have hlen := ndsCells_len l
    have h6 : 6 ≤ (ndsCells l).length - i * 6 := by omega
    have wr : IntKind.i64.wrap ((i : Int) + 1) = ((i + 1 : Nat) : Int) := by rw [IntWalk.i64_in _ (by omega)]; omega
    have hdl := Syn.ndT_len hdw
    have hnb : Syn.ndT d = Syn.headT d ++ (Syn.eqsT d.eqs ++ (Syn.sTel ++ [59, 10])) := rfl
    rw [htk, List.length_append] at hle
    have l1 := Syn.vs_tlen fun v hv => Syn.wfV_L (hdw.ins v hv)
    have l2 := Syn.vs_tlen fun v hv => Syn.wfV_L (hdw.outs v hv)
    have l3 := Syn.vs_tlen hdw.locals
    have l4 := Syn.nm_len hdw.name
    have l5 := eqs_wt_len d.eqs
    have l6 : d.wt = 1 + (d.ins.length + d.outs.length + d.locals.length + Syn.eqsWt d.eqs) := rfl
    have d1 := fun H => decls_wr (G := G) (l := d.ins) (fun v hv => Syn.wfV_L (hdw.ins v hv)) (by omega) H
    have d2 := fun H => decls_wr (G := G) (l := d.outs) (fun v hv => Syn.wfV_L (hdw.outs v hv)) (by omega) H
    have d3 := fun H => decls_wr (G := G) (l := d.locals) hdw.locals (by omega) H
    have hqw := hdw.eqs
    generalize Syn.showT (l.take i) = t0 at *
    obtain ⟨nm, vi, vo, vl, vq, pos⟩ := d
    simp only [ndCells] at hat
    simp only at l1 l2 l3 l4 l5 l6 d1 d2 d3 hqw hnb
    have hnb2 := congrArg List.length hnb
    simp only [List.length_append] at hnb2
    obtain ⟨b, g1, li, lb⟩ := wr_fresh (lts_of hw1) hW
    simp [t3, t10, t11, t12, hii, hlt, hal, h6, hat, hvc, hec, -alen]
    refine aw_drawn [(4, 0), (4, 10), (4, 15), (8, 0), (13, 0), (13, 10)] mixedOrders (by kernel_rfl) ?_
    intro es hes
    simp [t3, hvc, -alen]
    iterate 2 (rw [if_pos (by first | omega | (simp only [List.length_append, List.length_cons, List.length_nil]; omega))]; simp [t3, hvc, -alen])
    refine ⟨_, _, d1 _, Nat.le_refl _, ?_⟩
    simp [t3, hvc, -alen]
    iterate 2 (rw [if_pos (by first | omega | (simp only [List.length_append, List.length_cons, List.length_nil]; omega))]; simp [t3, hvc, -alen])
    refine ⟨_, _, d2 _, Nat.le_refl _, ?_⟩
    simp [t3, hvc, -alen]
    iterate 2 (rw [if_pos (by first | omega | (simp only [List.length_append, List.length_cons, List.length_nil]; omega))]; simp [t3, hvc, -alen])
    obtain ⟨H2, k1, k2, lt2⟩ := write_exw (G := G) isCheckW isWriteW (push_lt hw1 _) (g1.more (push_keep hw1 (.cells [.str nm, vsV vi, vsV vo, vsV vl, eqsV vq, .int .i64 pos]))) (s := 110 :: 111 :: 100 :: 101 :: 32 :: (nm ++ 40 :: (Syn.vsT vi ++ 41 :: 32 :: 114 :: 101 :: 116 :: 117 :: 114 :: 110 :: 115 :: 32 :: 40 :: (Syn.vsT vo ++ [41, 59, 10])))) (by first | omega | (simp only [List.length_append, List.length_cons, List.length_nil]; omega))
    refine ⟨_, _, k1, (by obtain ⟨_, _, _, h3, _⟩ := k2; exact h3), ?_⟩
    obtain ⟨hW2, hc2⟩ := wr_piece hw0 hw1 hW g1 k2
    clear k1 k2
    obtain ⟨b2, g2, li2, lb2⟩ := wr_fresh lt2 hW2
    by_cases hvl : vl = []
    · subst hvl
      have a0 : alen Tryz.prog 34 (vsV []) = some (.int .i64 0) := rfl
      simp [rds, heapF, hc2, t3, t10, t11, t12, hvs, hvc, hec, a0, -alen]
      subst hes
      refine ⟨⟨by kernel_rfl, by kernel_rfl⟩, ?_⟩
      refine does_use (ws_wr (s := [108, 101, 116, 10]) g2 (by first | omega | (simp only [List.length_append, List.length_cons, List.length_nil]; omega))) ?_
      rintro r H4 ⟨rfl, k4⟩
      have hW4 := wr_next hw0 hW2 g2 k4
      have hc4 := wr_kept g2 hc2 k4
      have hhd : (t0 ++ (110 :: 111 :: 100 :: 101 :: 32 :: (nm ++ 40 :: (Syn.vsT vi ++ 41 :: 32 :: 114 :: 101 :: 116 :: 117 :: 114 :: 110 :: 115 :: 32 :: 40 :: (Syn.vsT vo ++ [41, 59, 10]))))) ++ [108, 101, 116, 10] = t0 ++ Syn.headT ⟨nm, vi, vo, [], vq, pos⟩ := by
        simp [Syn.headT, Syn.sNode, Syn.sReturns, Syn.sVar, Syn.sLet]
      rw [hhd] at hW4
      clear k4 hhd
      simp [hc4, t3, t10, t11, t12, hes1, hvc, hec, -alen]
      refine aws_loopw (fun m' T' H' => ∃ k : Nat, k + m' = vq.length ∧ T' 3 = .ptr p 0 ∧ T' 10 = .vsl (ndsCells l) l.length ∧ T' 11 = .int .i64 l.length ∧ T' 12 = .int .i64 i ∧ T' 52 = eqsV vq ∧ T' 53 = .int .i64 vq.length ∧ T' 54 = .int .i64 k ∧ Wr WT UT H0 p none ((t0 ++ Syn.headT ⟨nm, vi, vo, [], vq, pos⟩) ++ Syn.eqsT (vq.take k)) H' []) vq.length ⟨0, by simp, by simp [t3], by simp [t10], by simp [t11], by simp [t12], by simp, by simp, by simp, by simpa [Syn.eqsT] using hW4⟩ ?_
      rintro m' T5 H5 ⟨k, hkm, u3, u10, u11, u12, u52, u53, u54, hW5⟩ hw5 _
      clear hW4 hc4
      by_cases hk : k < vq.length
      · have hkk : (k : Int) < vq.length := by omega
        have hq : vq[k]? = some vq[k] := List.getElem?_eq_getElem hk
        have hqm : vq[k] ∈ vq := List.getElem_mem hk
        have hqt := Syn.eqsT_take hq
        have hqle := Syn.eqsT_le (k + 1) vq
        generalize vq[k] = q at *
        have hqa := eq_take hq
        have hqq := hqw q hqm
        have hql := Syn.eqT_len hqq
        have hqwt := eqs_wt_mem hqm
        have hqv : eqsV vq = .vsl (eqsCells vq) vq.length := by unfold eqsV; rw [if_neg (by intro e0; rw [List.isEmpty_iff] at e0; rw [e0] at hk; simp at hk)]
        rw [hqv] at u52
        have hlenq := eqsCells_len vq
        have h7 : 7 ≤ (eqsCells vq).length - k * 7 := by omega
        have wrk : IntKind.i64.wrap ((k : Int) + 1) = ((k + 1 : Nat) : Int) := by rw [IntWalk.i64_in _ (by omega)]; omega
        rw [hqt, List.length_append] at hqle
        obtain ⟨hqn, w, tt, htr⟩ := hqq
        have hnl := Syn.nm_len hqn
        have htl := Syn.tr_len htr
        have hE := tr_w hG htr (by omega)
        obtain rfl := Syn.tr_tx htr
        have hqT : Syn.eqT q = 32 :: 32 :: (q.name ++ (32 :: 61 :: 32 :: (Syn.tx q.e ++ [59, 10]))) := rfl
        obtain ⟨qn, qe, qp⟩ := q
        simp only at hnl htl hE hqT hqwt
        generalize Syn.tx qe = tt at *
        obtain ⟨eop, enm, en, ep, eks⟩ := qe
        simp only [eqCells, exCells_mk, List.cons_append, List.nil_append] at hqa
        simp only [ExW, exCells_mk] at hE
        generalize Syn.eqsT (vq.take k) = te at *
        obtain ⟨b5, g5, li5, lb5⟩ := wr_fresh (lts_of hw5) hW5
        simp [u3, u10, u11, u12, u52, u53, u54, hkk, hk, hqa, h7, -alen]
        refine aw_drawn [(4, 0)] mixedOrders (by kernel_rfl) ?_
        intro es hes
        simp [u3, -alen]
        iterate 2 (rw [if_pos (by first | omega | (simp only [List.length_append, List.length_cons, List.length_nil]; omega))]; simp [u3, -alen])
        obtain ⟨H6, k1, k2, lt6⟩ := write_exw (G := G) isCheckW isWriteW (push_lt hw5 _) (g5.more (push_keep hw5 (.cells [.str qn, .str eop, .str enm, .int .i64 en, .int .i64 ep, kidsV eks, .int .i64 qp]))) (s := 32 :: 32 :: (qn ++ [32, 61, 32])) (by first | omega | (simp only [List.length_append, List.length_cons, List.length_nil]; omega))
        refine ⟨_, _, k1, (by obtain ⟨_, _, _, h3, _⟩ := k2; exact h3), ?_⟩
        obtain ⟨hW6, hc6⟩ := wr_piece hw0 hw5 hW5 g5 k2
        clear k1 k2
        obtain ⟨b6, g6, li6, lb6⟩ := wr_fresh lt6 hW6
        simp [rds, heapF, hc6, u3, u10, u11, u12, u52, u53, u54, -alen]
        subst hes
        refine ⟨⟨by kernel_rfl, by kernel_rfl⟩, ?_⟩
        refine does_usew (hE _ _ _ _ g6 (by first | omega | (simp only [List.length_append, List.length_cons, List.length_nil]; omega))) ?_
        rintro r H7 k7 hw7 _
        have hW7 := wr_next hw0 hW6 g6 k7
        obtain ⟨b7, g7, li7, lb7⟩ := wr_fresh (lts_of hw7) hW7
        simp [u3, u10, u11, u12, u52, u53, u54, -alen]
        refine does_use (ws_wr (s := [59, 10]) g7 (by first | omega | (simp only [List.length_append, List.length_cons, List.length_nil]; omega))) ?_
        rintro r H8 ⟨rfl, k8⟩
        have hW8 := wr_next hw0 hW7 g7 k8
        simp [u3, u10, u11, u12, u52, u53, u54, -alen]
        refine ⟨m' - 1, by omega, k + 1, by omega, hqv.symm, wrk, ?_⟩
        rw [hqt, hqT]
        simpa only [List.append_assoc, List.cons_append, List.nil_append] using hW8
      · obtain rfl : k = vq.length := by omega
        have e2 : vq.take vq.length = vq := List.take_of_length_le (Nat.le_refl _)
        rw [e2] at hW5
        obtain ⟨b5, g5, li5, lb5⟩ := wr_fresh (lts_of hw5) hW5
        simp [u3, u10, u11, u12, u52, u53, u54, -alen]
        refine does_use (ws_wr (s := [116, 101, 108, 59, 10]) g5 (by first | omega | (simp only [List.length_append, List.length_cons, List.length_nil]; omega))) ?_
        rintro r H6 ⟨rfl, k6⟩
        have hW6 := wr_next hw0 hW5 g5 k6
        simp [u3, u10, u11, u12, u52, u53, u54, -alen]
        refine ⟨m - 1, by omega, i + 1, by omega, wr, hp, ?_⟩
        rw [← hp, htk, hnb]
        simpa [Syn.sTel] using hW6
    · have hvl0 : (0 : Int) < vl.length := by
        have : vl.length ≠ 0 := by simpa using hvl
        omega
      have hvl1 : 0 < vl.length := by omega
      simp [rds, heapF, hc2, t3, t10, t11, t12, hvs, hvc, hec, hvl0, hvl1, -alen]
      subst hes
      refine ⟨⟨by kernel_rfl, by kernel_rfl⟩, ?_⟩
      refine aw_drawn [(4, 0)] mixedOrders (by kernel_rfl) ?_
      intro es hes
      simp [hc2, t3, hvc, -alen]
      refine ⟨_, _, d3 _, Nat.le_refl _, ?_⟩
      simp [t3, hvc, -alen]
      iterate 2 (rw [if_pos (by first | omega | (simp only [List.length_append, List.length_cons, List.length_nil]; omega))]; simp [t3, hvc, -alen])
      obtain ⟨H3, k1, k2, lt3⟩ := write_exw (G := G) isCheckW isWriteW lt2 g2 (s := 118 :: 97 :: 114 :: 32 :: (Syn.vsT vl ++ [59, 10])) (by first | omega | (simp only [List.length_append, List.length_cons, List.length_nil]; omega))
      refine ⟨_, _, k1, (by obtain ⟨_, _, _, h3, _⟩ := k2; exact h3), ?_⟩
      have hW3 := wr_next hw0 hW2 g2 k2
      have hc3 := wr_kept g2 hc2 k2
      clear k1 k2
      obtain ⟨b3, g3, li3, lb3⟩ := wr_fresh lt3 hW3
      simp [rds, heapF, hc2, hc3, t3, t10, t11, t12, hvs, hvc, hec, -alen]
      subst hes
      refine ⟨⟨by kernel_rfl, by kernel_rfl⟩, ?_⟩
      refine does_use (ws_wr (s := [108, 101, 116, 10]) g3 (by first | omega | (simp only [List.length_append, List.length_cons, List.length_nil]; omega))) ?_
      rintro r H4 ⟨rfl, k4⟩
      have hW4 := wr_next hw0 hW3 g3 k4
      have hc4 := wr_kept g3 hc3 k4
      have hhd : (t0 ++ (110 :: 111 :: 100 :: 101 :: 32 :: (nm ++ 40 :: (Syn.vsT vi ++ 41 :: 32 :: 114 :: 101 :: 116 :: 117 :: 114 :: 110 :: 115 :: 32 :: 40 :: (Syn.vsT vo ++ [41, 59, 10])))) ++ (118 :: 97 :: 114 :: 32 :: (Syn.vsT vl ++ [59, 10]))) ++ [108, 101, 116, 10] = t0 ++ Syn.headT ⟨nm, vi, vo, vl, vq, pos⟩ := by
        simp [Syn.headT, Syn.sNode, Syn.sReturns, Syn.sVar, Syn.sLet, hvl]
      rw [hhd] at hW4
      clear k4 hhd
      simp [hc4, t3, t10, t11, t12, hes1, hvc, hec, -alen]
      refine aws_loopw (fun m' T' H' => ∃ k : Nat, k + m' = vq.length ∧ T' 3 = .ptr p 0 ∧ T' 10 = .vsl (ndsCells l) l.length ∧ T' 11 = .int .i64 l.length ∧ T' 12 = .int .i64 i ∧ T' 52 = eqsV vq ∧ T' 53 = .int .i64 vq.length ∧ T' 54 = .int .i64 k ∧ Wr WT UT H0 p none ((t0 ++ Syn.headT ⟨nm, vi, vo, vl, vq, pos⟩) ++ Syn.eqsT (vq.take k)) H' []) vq.length ⟨0, by simp, by simp [t3], by simp [t10], by simp [t11], by simp [t12], by simp, by simp, by simp, by simpa [Syn.eqsT] using hW4⟩ ?_
      rintro m' T5 H5 ⟨k, hkm, u3, u10, u11, u12, u52, u53, u54, hW5⟩ hw5 _
      clear hW4 hc4
      by_cases hk : k < vq.length
      · have hkk : (k : Int) < vq.length := by omega
        have hq : vq[k]? = some vq[k] := List.getElem?_eq_getElem hk
        have hqm : vq[k] ∈ vq := List.getElem_mem hk
        have hqt := Syn.eqsT_take hq
        have hqle := Syn.eqsT_le (k + 1) vq
        generalize vq[k] = q at *
        have hqa := eq_take hq
        have hqq := hqw q hqm
        have hql := Syn.eqT_len hqq
        have hqwt := eqs_wt_mem hqm
        have hqv : eqsV vq = .vsl (eqsCells vq) vq.length := by unfold eqsV; rw [if_neg (by intro e0; rw [List.isEmpty_iff] at e0; rw [e0] at hk; simp at hk)]
        rw [hqv] at u52
        have hlenq := eqsCells_len vq
        have h7 : 7 ≤ (eqsCells vq).length - k * 7 := by omega
        have wrk : IntKind.i64.wrap ((k : Int) + 1) = ((k + 1 : Nat) : Int) := by rw [IntWalk.i64_in _ (by omega)]; omega
        rw [hqt, List.length_append] at hqle
        obtain ⟨hqn, w, tt, htr⟩ := hqq
        have hnl := Syn.nm_len hqn
        have htl := Syn.tr_len htr
        have hE := tr_w hG htr (by omega)
        obtain rfl := Syn.tr_tx htr
        have hqT : Syn.eqT q = 32 :: 32 :: (q.name ++ (32 :: 61 :: 32 :: (Syn.tx q.e ++ [59, 10]))) := rfl
        obtain ⟨qn, qe, qp⟩ := q
        simp only at hnl htl hE hqT hqwt
        generalize Syn.tx qe = tt at *
        obtain ⟨eop, enm, en, ep, eks⟩ := qe
        simp only [eqCells, exCells_mk, List.cons_append, List.nil_append] at hqa
        simp only [ExW, exCells_mk] at hE
        generalize Syn.eqsT (vq.take k) = te at *
        obtain ⟨b5, g5, li5, lb5⟩ := wr_fresh (lts_of hw5) hW5
        simp [u3, u10, u11, u12, u52, u53, u54, hkk, hk, hqa, h7, -alen]
        refine aw_drawn [(4, 0)] mixedOrders (by kernel_rfl) ?_
        intro es hes
        simp [u3, -alen]
        iterate 2 (rw [if_pos (by first | omega | (simp only [List.length_append, List.length_cons, List.length_nil]; omega))]; simp [u3, -alen])
        obtain ⟨H6, k1, k2, lt6⟩ := write_exw (G := G) isCheckW isWriteW (push_lt hw5 _) (g5.more (push_keep hw5 (.cells [.str qn, .str eop, .str enm, .int .i64 en, .int .i64 ep, kidsV eks, .int .i64 qp]))) (s := 32 :: 32 :: (qn ++ [32, 61, 32])) (by first | omega | (simp only [List.length_append, List.length_cons, List.length_nil]; omega))
        refine ⟨_, _, k1, (by obtain ⟨_, _, _, h3, _⟩ := k2; exact h3), ?_⟩
        obtain ⟨hW6, hc6⟩ := wr_piece hw0 hw5 hW5 g5 k2
        clear k1 k2
        obtain ⟨b6, g6, li6, lb6⟩ := wr_fresh lt6 hW6
        simp [rds, heapF, hc6, u3, u10, u11, u12, u52, u53, u54, -alen]
        subst hes
        refine ⟨⟨by kernel_rfl, by kernel_rfl⟩, ?_⟩
        refine does_usew (hE _ _ _ _ g6 (by first | omega | (simp only [List.length_append, List.length_cons, List.length_nil]; omega))) ?_
        rintro r H7 k7 hw7 _
        have hW7 := wr_next hw0 hW6 g6 k7
        obtain ⟨b7, g7, li7, lb7⟩ := wr_fresh (lts_of hw7) hW7
        simp [u3, u10, u11, u12, u52, u53, u54, -alen]
        refine does_use (ws_wr (s := [59, 10]) g7 (by first | omega | (simp only [List.length_append, List.length_cons, List.length_nil]; omega))) ?_
        rintro r H8 ⟨rfl, k8⟩
        have hW8 := wr_next hw0 hW7 g7 k8
        simp [u3, u10, u11, u12, u52, u53, u54, -alen]
        refine ⟨m' - 1, by omega, k + 1, by omega, hqv.symm, wrk, ?_⟩
        rw [hqt, hqT]
        simpa only [List.append_assoc, List.cons_append, List.nil_append] using hW8
      · obtain rfl : k = vq.length := by omega
        have e2 : vq.take vq.length = vq := List.take_of_length_le (Nat.le_refl _)
        rw [e2] at hW5
        obtain ⟨b5, g5, li5, lb5⟩ := wr_fresh (lts_of hw5) hW5
        simp [u3, u10, u11, u12, u52, u53, u54, -alen]
        refine does_use (ws_wr (s := [116, 101, 108, 59, 10]) g5 (by first | omega | (simp only [List.length_append, List.length_cons, List.length_nil]; omega))) ?_
        rintro r H6 ⟨rfl, k6⟩
        have hW6 := wr_next hw0 hW5 g5 k6
        simp [u3, u10, u11, u12, u52, u53, u54, -alen]
        refine ⟨m - 1, by omega, i + 1, by omega, wr, hp, ?_⟩
        rw [← hp, htk, hnb]
        simpa [Syn.sTel] using hW6
  · obtain rfl : i = l.length := by omega
    have e1 : l.take l.length = l := List.take_of_length_le (Nat.le_refl _)
    rw [e1] at hW
    simp [t3, t10, t11, t12, -alen]
    obtain ⟨b, ⟨c0, c1, e1, e2, e3⟩, g2, g3, g4⟩ := hW
    have hsn : Syn.showT l ≠ [] := by
      cases l with
      | nil => exact absurd rfl hne
      | cons d l => simp [Syn.showT, Syn.ndT, Syn.headT, Syn.sNode]
    rcases e3 with ⟨e4, _, _⟩ | ⟨j, rfl, x1, x2, rfl, x4⟩
    · exact absurd e4 hsn
    · have hj : H0.next ≤ j := by
        rcases g2 with g2 | ⟨k, g2, g5⟩
        · simp at g2
        · cases g2; exact g5
      refine does_use (string_some isString e1 x4 x2 (by simp only [List.nil_append]; omega)) ?_
      rintro r h ⟨rfl, rfl⟩
      simp [-alen]
      intro k x hk
      have hkn := (hw _ _ hk).1
      exact ⟨by omega, g4 _ _ (by omega) (by simp) (hk0 _ _ hk)⟩
end Go.Proofs.YtbakbednenfofaaGreatDoor

namespace Go.Proofs.YtbakbednenfofaaGreatDoor
open Go Go.Abs Go.Lex
open Go.Syn (Ex Nd Eqn Va)
set_option linter.unusedSimpArgs false
set_option linter.unusedVariables false
variable {G : Nat → Option AV}
set_option maxHeartbeats 8000000 in
set_option maxRecDepth 100000 in
theorem same1 (x y : Va) (H : AHeap) : Does Tryz.prog G 20 [.agg (vaCells x), .agg (vaCells y)] H fun r h => r = .bool (sameV x y) ∧ h = H := by
  refine bool_of ?_
  refine Does.wf Tryz.call20 fun hw _ => ?_
  have old : ∀ j x, H.get j = some x → j < H.next := fun j x hj => next_lt hw hj
  obtain ⟨nm, kd, on, ng, pos⟩ := x
  obtain ⟨nm', kd', on', ng', pos'⟩ := y
  simp only [vaCells]
  refine does_f Tryz.call20 Tryz.func20 rfl (by simp [Tryz.f20]) ?_
  simp [-alen]
  cases h1 : nm == nm' with
  | false =>
    simp [h1, sameV, -alen]
    intro j x hj
    have := old j x hj
    have e1 : j ≠ H.next := by omega
    have e2 : j ≠ H.next + 1 := by omega
    simp [e1, e2, hj]
  | true =>
    simp [h1, -alen]
    by_cases h2 : (kd : Int) = kd'
    case neg =>
      have h2' : (kd == kd') = false := by simp; omega
      simp [h1, h2, h2', sameV, -alen]
      intro j x hj
      have := old j x hj
      have e1 : j ≠ H.next := by omega
      have e2 : j ≠ H.next + 1 := by omega
      simp [e1, e2, hj]
    case pos =>
      obtain rfl : kd = kd' := by omega
      simp [h1, -alen]
      cases h3 : on == on' with
      | false =>
        simp [h1, h3, sameV, -alen]
        intro j x hj
        have := old j x hj
        have e1 : j ≠ H.next := by omega
        have e2 : j ≠ H.next + 1 := by omega
        simp [e1, e2, hj]
      | true =>
        simp [h1, h3, sameV, -alen]
        intro j x hj
        have := old j x hj
        have e1 : j ≠ H.next := by omega
        have e2 : j ≠ H.next + 1 := by omega
        simp [e1, e2, hj]
set_option maxHeartbeats 8000000 in
set_option maxRecDepth 100000 in
theorem same2 (x y : Eqn) (hx : x.e.wt ≤ 1000000000) (H : AHeap) : Does Tryz.prog G 21 [.agg (eqCells x), .agg (eqCells y)] H fun r h => r = .bool (sameQ x y) ∧ h = H := by
  refine bool_of ?_
  refine Does.wf Tryz.call21 fun hw _ => ?_
  have old : ∀ j x, H.get j = some x → j < H.next := fun j x hj => next_lt hw hj
  obtain ⟨nm, e, pos⟩ := x
  obtain ⟨nm', e', pos'⟩ := y
  have hs := same_ex (G := G) e hx e'
  simp only [sameQ]
  generalize sameE e e' = c at *
  obtain ⟨op, nm2, n, p, k2⟩ := e
  obtain ⟨op', nm2', n', p', k2'⟩ := e'
  simp only [eqCells, exCells_mk, List.cons_append, List.nil_append] at hs ⊢
  refine does_f Tryz.call21 Tryz.func21 rfl (by simp [Tryz.f21]) ?_
  simp [-alen]
  cases h1 : nm == nm' with
  | false =>
    simp [h1, -alen]
    intro j x hj
    have := old j x hj
    have e1 : j ≠ H.next := by omega
    have e2 : j ≠ H.next + 1 := by omega
    simp [e1, e2, hj]
  | true =>
    simp [h1, -alen]
    refine does_use (hs _) ?_
    rintro r h ⟨rfl, rfl⟩
    simp [h1, -alen]
    intro j x hj
    have := old j x hj
    have e1 : j ≠ H.next := by omega
    have e2 : j ≠ H.next + 1 := by omega
    simp [e1, e2, hj]
set_option maxHeartbeats 8000000 in
set_option maxRecDepth 100000 in
theorem same3 (x y : Nd) {c1 c2 : Nat} (hx : ∀ q ∈ x.eqs, q.e.wt ≤ 1000000000) (l1 : x.ins.length ≤ 1000000000) (l2 : x.outs.length ≤ 1000000000) (l3 : x.locals.length ≤ 1000000000) (l4 : x.eqs.length ≤ 1000000000)
    (H : AHeap) (g1 : H.get c1 = some (.cells [.func (.func 20) [] []])) (g2 : H.get c2 = some (.cells [.func (.func 21) [] []])) :
    Does Tryz.prog G 24 [.agg (ndCells x), .agg (ndCells y), .ptr c1 0, .ptr c2 0] H fun r h => r = .bool (sameN x y) ∧ h = H := by
  refine bool_of ?_
  refine Does.wf Tryz.call24 fun hw _ => ?_
  have old : ∀ j x, H.get j = some x → j < H.next := fun j x hj => next_lt hw hj
  obtain ⟨nm, vi, vo, vl, vq, pos⟩ := x
  obtain ⟨nm', vi', vo', vl', vq', pos'⟩ := y
  simp only at hx l1 l2 l3 l4
  have b1 := old _ _ g1
  have b2 := old _ _ g2
  have m1 : c1 ≠ H.next := by omega
  have m2 : c1 ≠ H.next + 1 := by omega
  have m3 : c2 ≠ H.next := by omega
  have m4 : c2 ≠ H.next + 1 := by omega
  have hq : ∀ l : List Eqn, (eqsV l).scalar = true := by
    intro l; unfold eqsV; split <;> rfl
  have ha := fun H' => eqf_va (G := G) (fun _ => True) (fun _ _ _ _ => trivial) (fun x _ y H _ => same1 x y H) l1 vi' H' trivial
  have hb := fun H' => eqf_va (G := G) (fun _ => True) (fun _ _ _ _ => trivial) (fun x _ y H _ => same1 x y H) l2 vo' H' trivial
  have hc := fun H' => eqf_va (G := G) (fun _ => True) (fun _ _ _ _ => trivial) (fun x _ y H _ => same1 x y H) l3 vl' H' trivial
  have hd := fun H' => eqf_eq (G := G) (fun _ => True) (fun _ _ _ _ => trivial) (fun x hm y H _ => same2 x y (hx x hm) H) l4 vq' H' trivial
  simp only [sameN]
  generalize eqL sameV vi vi' = r1 at *
  generalize eqL sameV vo vo' = r2 at *
  generalize eqL sameV vl vl' = r3 at *
  generalize eqL sameQ vq vq' = r4 at *
  simp only [ndCells]
  refine does_f Tryz.call24 Tryz.func24 rfl (by simp [Tryz.f24]) ?_
  simp [hq, -alen]
  cases h1 : nm == nm' with
  | false =>
    simp [h1, hq, -alen]
    intro j x hj
    have := old j x hj
    have e1 : j ≠ H.next := by omega
    have e2 : j ≠ H.next + 1 := by omega
    simp [e1, e2, hj]
  | true =>
    simp [h1, hq, g1, g2, m1, m2, m3, m4, -alen]
    refine does_use (ha _) ?_
    rintro r h ⟨rfl, rfl⟩
    cases r1 with
    | false =>
      simp [h1, hq, g1, g2, m1, m2, m3, m4, -alen]
      intro j x hj
      have := old j x hj
      have e1 : j ≠ H.next := by omega
      have e2 : j ≠ H.next + 1 := by omega
      simp [e1, e2, hj]
    | true =>
      simp [h1, hq, g1, g2, m1, m2, m3, m4, -alen]
      refine does_use (hb _) ?_
      rintro r h ⟨rfl, rfl⟩
      cases r2 with
      | false =>
        simp [h1, hq, g1, g2, m1, m2, m3, m4, -alen]
        intro j x hj
        have := old j x hj
        have e1 : j ≠ H.next := by omega
        have e2 : j ≠ H.next + 1 := by omega
        simp [e1, e2, hj]
      | true =>
        simp [h1, hq, g1, g2, m1, m2, m3, m4, -alen]
        refine does_use (hc _) ?_
        rintro r h ⟨rfl, rfl⟩
        cases r3 with
        | false =>
          simp [h1, hq, g1, g2, m1, m2, m3, m4, -alen]
          intro j x hj
          have := old j x hj
          have e1 : j ≠ H.next := by omega
          have e2 : j ≠ H.next + 1 := by omega
          simp [e1, e2, hj]
        | true =>
          simp [h1, hq, g1, g2, m1, m2, m3, m4, -alen]
          refine does_use (hd _) ?_
          rintro r h ⟨rfl, rfl⟩
          simp [h1, hq, g1, g2, m1, m2, m3, m4, -alen]
          intro j x hj
          have := old j x hj
          have e1 : j ≠ H.next := by omega
          have e2 : j ≠ H.next + 1 := by omega
          simp [e1, e2, hj]
set_option maxHeartbeats 8000000 in
set_option maxRecDepth 100000 in
theorem same_does {l m : List Nd} (hlen : l.length ≤ 1000000000) (hl : ∀ x ∈ l, (∀ q ∈ x.eqs, q.e.wt ≤ 1000000000) ∧ x.ins.length ≤ 1000000000 ∧ x.outs.length ≤ 1000000000 ∧ x.locals.length ≤ 1000000000 ∧ x.eqs.length ≤ 1000000000)
    (H : AHeap) : Does Tryz.prog G 8 [ndsV l, ndsV m] H fun r h => r = .bool (eqL sameN l m) ∧ h = H := by
  refine bool_of ?_
  refine Does.wf Tryz.call8 fun hw _ => ?_
  have old : ∀ j x, H.get j = some x → j < H.next := fun j x hj => next_lt hw hj
  have hsc : ∀ l : List Nd, (ndsV l).scalar = true := by
    intro l; unfold ndsV; split <;> rfl
  have hd := fun (H' : AHeap) (c1 c2 : Nat) hok => eqf_nd (G := G) (c1 := c1) (c2 := c2) (ks := l)
    (fun H => H.get c1 = some (.cells [.func (.func 20) [] []]) ∧ H.get c2 = some (.cells [.func (.func 21) [] []]))
    (fun H H' h k => ⟨k _ _ h.1, k _ _ h.2⟩) (fun x hm y H h => same3 x y (hl x hm).1 (hl x hm).2.1 (hl x hm).2.2.1 (hl x hm).2.2.2.1 (hl x hm).2.2.2.2 H h.1 h.2) hlen m H' hok
  generalize eqL sameN l m = c at *
  refine does_f Tryz.call8 Tryz.func8 rfl (by simp [Tryz.f8]) ?_
  simp [hsc, -alen]
  refine does_use (hd _ _ _ ⟨?_, ?_⟩) ?_
  · simp
  · simp
  rintro r h ⟨rfl, rfl⟩
  simp [hsc, -alen]
  intro j x hj
  have := old j x hj
  have e1 : j ≠ H.next := by omega
  have e2 : j ≠ H.next + 1 := by omega
  simp [e1, e2, hj]
end Go.Proofs.YtbakbednenfofaaGreatDoor

namespace Go.Proofs.YtbakbednenfofaaGreatDoor
open Go Go.Abs Go.Lex
set_option linter.unusedSimpArgs false
set_option maxRecDepth 100000
theorem gof_low5 : ∀ (T : List (Nat × List AV)), (T.all fun p => (AV.vptr p.2).idLt 0) = true → ∀ g a, Gof T g = some a → a.idLt 0 = true
  | [], _, g, a, ha => by simp [Gof] at ha
  | (h, l) :: r, hT, g, a, ha => by
    simp only [List.all_cons, Bool.and_eq_true] at hT
    simp only [Gof] at ha
    split at ha
    · cases ha; exact hT.1
    · exact gof_low5 r hT.2 g a ha
theorem mixed5 : Tryz.prog.follows .mixedOrders = true := by kernel_rfl
theorem plain5 : plainFn Tryz.prog = true := by kernel_rfl
theorem gof_tab5 : ∀ g a, Gof tab g = some a → a.idLt 0 = true := gof_low5 tab (by kernel_rfl)
theorem awake5 (H : AHeap) : Does Tryz.prog (Gof tab) 5 [] H fun r h => r = .bool true ∧ h = H :=
  lit_does mixed5 plain5 knownP_good gof_tab5 rfl rfl awake_run H
end Go.Proofs.YtbakbednenfofaaGreatDoor

namespace Go.Proofs.YtbakbednenfofaaGreatDoor
open Go Go.Abs Go.Lex
open Go.Syn (Ex Nd Eqn Va)
set_option linter.unusedSimpArgs false
set_option linter.unusedVariables false
theorem powG : PowG (Gof tab) := by
  unfold PowG
  kernel_rfl
theorem nds_sc (l : List Nd) : (ndsV l).scalar = true ∧ (ndsV l).cells = [ndsV l] := by
  unfold ndsV; split <;> exact ⟨rfl, rfl⟩
theorem ans_ok {t : Bs} {l : List Nd} (hp : Syn.parse t = .ok l) : parseAns t = .tuple [ndsV l, .agg [.int .i64 0, .int .i64 0]] := by unfold parseAns; rw [hp]
theorem ans_err {t : Bs} {e p : Nat} (hp : Syn.parse t = .error (e, p)) : parseAns t = .tuple [.nilsl, .agg [.int .i64 e, .int .i64 p]] := by unfold parseAns; rw [hp]
theorem same_ok {G : Nat → Option AV} {t : Bs} {l : List Nd} (hp : Syn.parse t = .ok l) (m : List Nd) (H : AHeap) : Does Tryz.prog G 8 [ndsV l, ndsV m] H fun r h => r = .bool (eqL sameN l m) ∧ h = H := by
  have hwt := Syn.parse_wt hp
  have hll := nds_wt_len l
  refine same_does (by omega) (fun x hx => ?_) H
  have w1 := nds_wt_mem hx
  have w2 : x.wt = 1 + (x.ins.length + x.outs.length + x.locals.length + Syn.eqsWt x.eqs) := rfl
  have w3 := eqs_wt_len x.eqs
  refine ⟨fun q hq => ?_, by omega, by omega, by omega, by omega⟩
  have := eqs_wt_mem hq
  omega
theorem show_ok {t : Bs} {l : List Nd} (hp : Syn.parse t = .ok l) (H : AHeap) : Does Tryz.prog (Gof tab) 7 [ndsV l] H fun r h => r = .str (Syn.showT l) ∧ h = H :=
  show_wr powG (Syn.parse_wf hp).1 (Syn.parse_wf hp).2 (Syn.parse_wt hp) H
end Go.Proofs.YtbakbednenfofaaGreatDoor

namespace Go.Proofs.YtbakbednenfofaaGreatDoor
open Go Go.Abs Go.Lex
open Go.Syn (Ex Nd Eqn Va)
set_option linter.unusedSimpArgs false
set_option linter.unusedVariables false
theorem same_show {a b : Bs} {l m : List Nd} (hl : Syn.parse a = .ok l) (hm : Syn.parse b = .ok m) : eqL sameN l m = (Syn.showT l == Syn.showT m) := by
  rw [Bool.eq_iff_iff, eqL_map l m sameN_er]
  constructor
  · intro h
    have : Syn.showT l = Syn.showT m := by rw [← Syn.showT_er l, h, Syn.showT_er]
    simpa using this
  · intro h
    exact Syn.show_inj (Syn.parse_wf hl).2 (Syn.parse_wf hm).2 (by simpa using h)
set_option maxHeartbeats 8000000 in
set_option maxRecDepth 100000 in
theorem sames_run (H : AHeap) (a b : Bs) (ha : a.length < 9223372036854775808) (hb : b.length < 9223372036854775808) : Does Tryz.prog (Gof tab) 4 [.str a, .str b] H fun r _ => r = .bool true := by
  refine does_f Tryz.call4 Tryz.func4 rfl (by simp [Tryz.f4]) ?_
  simp
  refine does_use (awake5 _) ?_
  rintro _ H0 ⟨rfl, rfl⟩
  by_cases big : 1000 < a.length
  · have : (1000 : Int) < a.length := by omega
    simp [this]
  have big' : ¬ (1000 : Int) < a.length := by omega
  by_cases big2 : 1000 < b.length
  · have : (1000 : Int) < b.length := by omega
    simp [big', this]
  have big2' : ¬ (1000 : Int) < b.length := by omega
  simp [big', big2']
  refine does_use (p_parse a hasErr _ ha) ?_
  rintro _ H2 ⟨rfl, hH⟩
  cases hH
  cases hp : Syn.parse a with
  | error x =>
    obtain ⟨e, p⟩ := x
    have e2 := parse_nz hp
    rw [ans_err hp]
    have e3 : ((e : Int) != 0) = true := by simp [e2]
    simp
    refine does_use (p_parse b hasErr _ hb) ?_
    rintro _ H3 ⟨rfl, hH⟩
    cases hH
    cases hq : Syn.parse b with
    | error y =>
      obtain ⟨e', p'⟩ := y
      rw [ans_err hq]
      simp [e3]
    | ok m =>
      rw [ans_ok hq]
      simp [nds_sc, e3]
  | ok l =>
    rw [ans_ok hp]
    simp [nds_sc, -alen]
    refine does_use (p_parse b hasErr _ hb) ?_
    rintro _ H3 ⟨rfl, hH⟩
    cases hH
    cases hq : Syn.parse b with
    | error y =>
      obtain ⟨e', p'⟩ := y
      have e2 := parse_nz hq
      have e3 : ((e' : Int) != 0) = true := by simp [e2]
      rw [ans_err hq]
      simp [e3, nds_sc, -alen]
    | ok m =>
      rw [ans_ok hq]
      have hs := same_show hp hq
      simp [nds_sc, -alen]
      refine does_use (same_ok hp _ _) ?_
      rintro _ H5 ⟨rfl, rfl⟩
      simp [nds_sc, -alen]
      refine does_use (show_ok hp _) ?_
      rintro _ H6 ⟨rfl, rfl⟩
      simp [nds_sc, -alen]
      refine does_use (show_ok hq _) ?_
      rintro _ H7 ⟨rfl, rfl⟩
      simp [nds_sc, hs, -alen]
end Go.Proofs.YtbakbednenfofaaGreatDoor

namespace Go.Proofs.YtbakbednenfofaaGreatDoor
open Go Go.Abs Go.Lex
set_option maxRecDepth 100000
theorem sames_law (H : AHeap) (a b : AV) (ha : Shp Tryz.prog 8 9 [a]) (hb : Shp Tryz.prog 8 9 [b]) : Does Tryz.prog (Gof tab) 4 [a, b] H fun r _ => r = .bool true := by
  obtain ⟨s, rfl, hl⟩ := shp_str ha
  obtain ⟨t, rfl, hm⟩ := shp_str hb
  have hx : maxLen = 9223372036854775807 := rfl
  exact sames_run H s t (by omega) (by omega)
end Go.Proofs.YtbakbednenfofaaGreatDoor
