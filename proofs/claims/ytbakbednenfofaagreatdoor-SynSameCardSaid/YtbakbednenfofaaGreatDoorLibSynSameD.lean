/-
  Own library of this claim, part 4: texts one behind the other (SyWt, SyWn, WrA, SyTe, Shf, ShA, SyTf, SySa, SySb, AbsZ, Facts, LxW1, AbsV, LxW2, LxW3, LxW4, LxW5, LxW6, LxW7, LxW8, SyP1, SyP2, SyP3, SyP4, SyP5, SyP6).
-/
import Derived.Shelf.Strings.OnBuilder
import Derived.Shelf.LaysM
import Derived.Shelf.Strconv.Itoa4
import Derived.Test.YtbakbednenfofaaGreatDoorRows
import Derived.Lib.AppendIntMem
import Derived.IntWalk
import Derived.Test.YtbakbednenfofaaGreatDoorProg
import Derived.KernelRfl
import Derived.Test.YtbakbednenfofaaGreatDoorLibSynSameC

namespace Go.Syn
open Go.Lex
set_option linter.unusedVariables false
set_option linter.unusedSimpArgs false
variable {W : Ws}
mutual
def Ex.wt : Ex → Nat
  | .mk _ _ _ _ kids => 1 + Ex.wts kids
def Ex.wts : List Ex → Nat
  | [] => 0
  | e :: l => e.wt + Ex.wts l
end
theorem wts_append : ∀ a b : List Ex, Ex.wts (a ++ b) = Ex.wts a + Ex.wts b
  | [], b => by simp [Ex.wts]
  | e :: a, b => by simp only [List.cons_append, Ex.wts, wts_append a b]; omega
def nu (W : Ws) (s : St) : Nat := W.length - s.i
theorem nu_succ {s s' : St} (hk : Syn.kind W s ≠ 0) (hi : s'.i = s.i + 1) : nu W s' + 1 ≤ nu W s := by
  have : s.i < W.length := by
    by_cases q : s.i < W.length
    · exact q
    · exfalso
      apply hk
      unfold Syn.kind at_
      rw [List.getD_eq_getElem?_getD, List.getElem?_eq_none (by omega)]
      rfl
  unfold nu
  omega
theorem nu_le {s s' : St} (hi : s.i ≤ s'.i) : nu W s' ≤ nu W s := by unfold nu; omega
theorem fail_same (e : Nat) (s : St) : (fail W e s).i = s.i := by unfold fail; split <;> rfl
theorem nu_part {s : St} (hk : Syn.kind W s ≠ 0) (h : (part W s).err = 0) : nu W (part W s) + 1 ≤ nu W s := by
  refine nu_succ hk ?_
  unfold part at h ⊢
  simp only at h ⊢
  generalize hs1 : (if 300 < wrap (s.parts + 1) then fail W 2 { s with parts := wrap (s.parts + 1) } else { s with parts := wrap (s.parts + 1) }) = s1 at h ⊢
  have h1 : s1.i = s.i := by
    rw [← hs1]
    split
    · exact fail_same _ _
    · rfl
  by_cases q : s1.err = 0
  · rw [if_pos q]
    show s1.i + 1 = s.i + 1
    rw [h1]
  · rw [if_neg q] at h
    exact absurd h q
theorem nu_want1 (s : St) (t : Bs) : nu W (want1 W s t) ≤ nu W s := by
  refine nu_le ?_
  unfold want1
  split
  · simp
  · rw [fail_same]; exact Nat.le_refl _
theorem nu_take (s : St) (t : Bs) : nu W (take W s t).2 ≤ nu W s := by
  refine nu_le ?_
  unfold take
  split
  · simp
  · exact Nat.le_refl _
theorem nu_name (s : St) : nu W (name W s).2 ≤ nu W s := by
  refine nu_le ?_
  unfold name
  simp only
  generalize hs1 : (if Syn.kind W s = 1 then s else fail W 7 s) = s1
  have h1 : s1.i = s.i := by
    rw [← hs1]
    split
    · rfl
    · exact fail_same _ _
  split
  · show s.i ≤ s1.i + 1
    omega
  · show s.i ≤ s1.i
    omega
theorem is_nz {s : St} {t : Bs} (h : Syn.is W s t = true) : Syn.kind W s ≠ 0 := by rcases is_kind h with e | e <;> rw [e] <;> decide
theorem one_nz {s : St} {ts : List Bs} (h : Syn.one W s ts = true) : Syn.kind W s ≠ 0 := by rcases (one_true h).2.2 with e | e <;> rw [e] <;> decide
structure Gw (W : Ws) (f : P) : Prop where
  stk : Stk f
  ok : ∀ s, (f s).2.err = 0 → (f s).1.wt + nu W (f s).2 ≤ nu W s
theorem wt_two (op nm : Bs) (n pos : Nat) (a b : Ex) : (Ex.mk op nm n pos [a, b]).wt = 1 + (a.wt + b.wt) := by simp [Ex.wt, Ex.wts]
theorem wt_one (op nm : Bs) (n pos : Nat) (a : Ex) : (Ex.mk op nm n pos [a]).wt = 1 + a.wt := by simp [Ex.wt, Ex.wts]
theorem wt_zero (op nm : Bs) (n pos : Nat) : (Ex.mk op nm n pos []).wt = 1 := by simp [Ex.wt, Ex.wts]
theorem rowL_wt {f : P} (hn : Gw W f) {ts : List Bs} : ∀ (k : Nat) (e : Ex) (s : St), (rowL W f ts k e s).2.err = 0 → (rowL W f ts k e s).1.wt + nu W (rowL W f ts k e s).2 ≤ e.wt + nu W s
  | 0, e, s, h => Nat.le_refl _
  | k + 1, e, s, h => by
    rw [rowL] at h ⊢
    cases ho : Syn.one W s ts with
    | false => exact Nat.le_refl _
    | true =>
      rw [ho, if_pos rfl] at h
      rw [if_pos rfl]
      simp only at h ⊢
      have h2 : (f (part W s)).2.err = 0 := by
        by_cases q : (f (part W s)).2.err = 0
        · exact q
        · rw [rowL_bad _ _ q] at h; exact h
      have h3 := nu_part (one_nz ho) (hn.stk.err0 h2)
      have h4 := hn.ok _ h2
      have h5 := rowL_wt hn k _ _ h
      rw [wt_two] at h5
      omega
theorem Gw.row {f : P} (hn : Gw W f) (ts : List Bs) : Gw W (Syn.row W f ts) := ⟨row_stk hn.stk ts, fun s h => by
  unfold Syn.row at h ⊢
  simp only at h ⊢
  have h1 : (f s).2.err = 0 := by
    by_cases q : (f s).2.err = 0
    · exact q
    · rw [rowL_bad _ _ q] at h; exact h
  have h2 := rowL_wt hn _ _ _ h
  have h3 := hn.ok s h1
  omega⟩
theorem Gw.right {f : P} (hn : Gw W f) {t : Bs} {last : Bool} {below : P} (hb : last = false → Gw W below) : Gw W (Syn.right W f t last below) := ⟨right_stk hn.stk _ _ _, fun s h => by
  unfold Syn.right at h ⊢
  simp only at h ⊢
  cases hi : Syn.is W (f s).2 t with
  | false =>
    rw [hi, if_neg (by decide)] at h
    exact hn.ok s h
  | true =>
    rw [hi, if_pos rfl] at h
    rw [if_pos rfl]
    have h1 := (is_true hi).1
    by_cases q : (deeper W last (part W (f s).2)).2.err = 0
    · obtain ⟨hp, hl, hd⟩ := deeper_err0 q
      rw [hd] at h ⊢
      simp only [if_true] at h ⊢
      have a := hn.ok s h1
      have b := (hb hl).ok _ h
      have c := nu_part (is_nz hi) hp
      rw [wt_two]
      omega
    · have hd : (deeper W last (part W (f s).2)).1 = false := by
        unfold deeper at q ⊢
        simpa using q
      rw [hd] at h
      exact absurd h q⟩
theorem Gw.cmp {f : P} (hn : Gw W f) : Gw W (Syn.cmp W f) := ⟨cmp_stk hn.stk, fun s h => by
  unfold Syn.cmp at h ⊢
  simp only at h ⊢
  cases ho : Syn.one W (f s).2 [[61], [60, 62], [60], [60, 61], [62], [62, 61]] with
  | false =>
    rw [ho, if_neg (by decide)] at h
    exact hn.ok s h
  | true =>
    rw [ho, if_pos rfl] at h
    rw [if_pos rfl]
    simp only at h ⊢
    have a := hn.ok s (one_true ho).1
    have b := hn.ok _ h
    have c := nu_part (one_nz ho) (hn.stk.err0 h)
    rw [wt_two]
    omega⟩
theorem whenL_wt : ∀ (k : Nat) (e : Ex) (s : St), (whenL W k e s).2.err = 0 → (whenL W k e s).1.wt + nu W (whenL W k e s).2 ≤ e.wt + nu W s
  | 0, e, s, h => Nat.le_refl _
  | k + 1, e, s, h => by
    rw [whenL] at h ⊢
    cases hi : Syn.is W s [119, 104, 101, 110] with
    | false => exact Nat.le_refl _
    | true =>
      rw [hi, if_pos rfl] at h
      rw [if_pos rfl]
      simp only at h ⊢
      have h1 : (name W (take W (part W s) [110, 111, 116]).2).2.err = 0 := by
        by_cases q : (name W (take W (part W s) [110, 111, 116]).2).2.err = 0
        · exact q
        · rw [whenL_bad q] at h; exact h
      have h2 := (name_err0 h1).1
      rw [take_err] at h2
      have a := nu_part (is_nz hi) h2
      have b := nu_take (W := W) (part W s) [110, 111, 116]
      have c := nu_name (W := W) (take W (part W s) [110, 111, 116]).2
      have d := whenL_wt k _ _ h
      rw [wt_one] at d
      omega
theorem Gw.when_ {f : P} (hn : Gw W f) : Gw W (Syn.when_ W f) := ⟨when_stk hn.stk, fun s h => by
  unfold Syn.when_ at h ⊢
  simp only at h ⊢
  have h1 : (f s).2.err = 0 := by
    by_cases q : (f s).2.err = 0
    · exact q
    · rw [whenL_bad q] at h; exact h
  have a := hn.ok s h1
  have b := whenL_wt _ _ _ h
  omega⟩
theorem Gw.inner {last : Bool} {below : P} (hb : last = false → Gw W below) : Gw W (Syn.inner W last below) := ⟨inner_stk _ _, fun s h => by
  unfold Syn.inner at h ⊢
  simp only at h ⊢
  by_cases q : (deeper W last s).2.err = 0
  · obtain ⟨_, hl, hd⟩ := deeper_err0 q
    rw [hd] at h ⊢
    simp only [if_true] at h ⊢
    exact (hb hl).ok _ h
  · have hd : (deeper W last s).1 = false := by
      unfold deeper at q ⊢
      simpa using q
    rw [hd] at h
    exact absurd h q⟩
theorem Gw.un {pr below : P} {last : Bool} (hp : Gw W pr) (hb : last = false → Gw W below) : Gw W (Syn.un W pr last below) := ⟨un_stk hp.stk _ _, fun s h => by
  unfold Syn.un at h ⊢
  cases ho : Syn.one W s [[110, 111, 116], [45], [112, 114, 101]] with
  | false =>
    rw [ho, if_neg (by decide)] at h
    exact hp.ok s h
  | true =>
    rw [ho, if_pos rfl] at h
    rw [if_pos rfl]
    simp only at h ⊢
    by_cases q : (deeper W last (part W s)).2.err = 0
    · obtain ⟨hq, hl, hd⟩ := deeper_err0 q
      rw [hd] at h ⊢
      simp only [if_true] at h ⊢
      have a := (hb hl).ok _ h
      have c := nu_part (one_nz ho) hq
      rw [wt_one]
      omega
    · have hd : (deeper W last (part W s)).1 = false := by
        unfold deeper at q ⊢
        simpa using q
      rw [hd] at h
      exact absurd h q⟩
theorem argsL_wt {inn : P} (hi : Gw W inn) : ∀ (k : Nat) (l : List Ex) (s : St), (argsL W inn k l s).2.err = 0 → Ex.wts (argsL W inn k l s).1 + nu W (argsL W inn k l s).2 ≤ Ex.wts l + nu W s
  | 0, l, s, h => Nat.le_refl _
  | k + 1, l, s, h => by
    rw [argsL] at h ⊢
    cases hq : Syn.is W s [44] with
    | false => exact Nat.le_refl _
    | true =>
      rw [hq, if_pos rfl] at h
      rw [if_pos rfl]
      simp only at h ⊢
      have h2 : (inn { s with i := s.i + 1 }).2.err = 0 := by
        by_cases q : (inn { s with i := s.i + 1 }).2.err = 0
        · exact q
        · rw [argsL_bad _ q] at h; exact h
      have a := hi.ok _ h2
      have b := argsL_wt hi k _ _ h
      have c : nu W { s with i := s.i + 1 } ≤ nu W s := nu_le (Nat.le_succ _)
      rw [wts_append] at b
      simp only [Ex.wts] at b
      omega
theorem arguments_wt {inn : P} (hi : Gw W inn) {s : St} (h : (arguments W inn s).2.err = 0) : Ex.wts (arguments W inn s).1 + nu W (arguments W inn s).2 ≤ nu W s := by
  unfold arguments at h ⊢
  cases hq : Syn.is W s [41] with
  | true =>
    rw [if_pos rfl]
    have c : nu W { s with i := s.i + 1 } ≤ nu W s := nu_le (Nat.le_succ _)
    simpa [Ex.wts] using c
  | false =>
    rw [hq, if_neg (by decide)] at h
    rw [if_neg (by decide)]
    simp only at h ⊢
    have h1 := want1_err0 h
    have h2 : (inn s).2.err = 0 := by
      by_cases q : (inn s).2.err = 0
      · exact q
      · rw [argsL_bad _ q] at h1; exact h1
    have a := hi.ok _ h2
    have b := argsL_wt hi _ _ _ h1
    have c := nu_want1 (W := W) (argsL W inn (W.length + 1) [(inn s).1] (inn s).2).2 [41]
    simp only [Ex.wts] at b
    omega
theorem rest_wt {inn mer : P} (hi : Gw W inn) (hm : Gw W mer) {x : Nat × Wd} {s : St} (h : (rest W inn mer x s).2.err = 0) : (rest W inn mer x s).1.wt + nu W (rest W inn mer x s).2 ≤ 1 + nu W s := by
  unfold rest at h ⊢
  by_cases c3 : x.2.kind = 3
  · rw [if_pos c3, wt_zero]; exact Nat.le_refl _
  rw [if_neg c3] at h ⊢
  by_cases ct : x.2.text = [116, 114, 117, 101]
  · rw [if_pos ct, wt_zero]; exact Nat.le_refl _
  rw [if_neg ct] at h ⊢
  by_cases cf : x.2.text = [102, 97, 108, 115, 101]
  · rw [if_pos cf, wt_zero]; exact Nat.le_refl _
  rw [if_neg cf] at h ⊢
  by_cases c1 : x.2.kind = 1
  · rw [if_pos c1] at h ⊢
    cases hq : Syn.is W s [40] with
    | false => rw [if_neg (by decide), wt_zero]; exact Nat.le_refl _
    | true =>
      rw [hq, if_pos rfl] at h
      rw [if_pos rfl]
      have a := arguments_wt hi h
      have c : nu W { s with i := s.i + 1 } ≤ nu W s := nu_le (Nat.le_succ _)
      show (Ex.mk _ _ _ _ (arguments W inn { s with i := s.i + 1 }).1).wt + nu W (arguments W inn { s with i := s.i + 1 }).2 ≤ _
      simp only [Ex.wt]
      omega
  rw [if_neg c1] at h ⊢
  by_cases ci : x.2.text = [105, 102]
  · rw [if_pos ci] at h ⊢
    simp only at h ⊢
    have h3 := want1_err0 (hi.stk.err0 h)
    have h2 := want1_err0 (hi.stk.err0 h3)
    have a := hi.ok _ h2
    have b := hi.ok _ h3
    have c := hi.ok _ h
    have d := nu_want1 (W := W) (inn s).2 [116, 104, 101, 110]
    have e := nu_want1 (W := W) (inn (want1 W (inn s).2 [116, 104, 101, 110])).2 [101, 108, 115, 101]
    simp only [Ex.wt, Ex.wts]
    omega
  rw [if_neg ci] at h ⊢
  simp only at h ⊢
  have h2 := hm.stk.err0 h
  have a := hm.ok _ h2
  have b := hm.ok _ h
  have c := nu_name (W := W) s
  rw [wt_two]
  omega
theorem Gw.prim {inn mer : P} (hi : Gw W inn) (hm : Gw W mer) : Gw W (Syn.prim W inn mer) := ⟨prim_stk _ _, fun s h => by
  unfold Syn.prim at h ⊢
  simp only at h ⊢
  by_cases c0 : s.err ≠ 0
  · rw [if_pos c0] at h; exact absurd h c0
  rw [if_neg c0] at h ⊢
  cases hq : Syn.is W s [40] with
  | true =>
    rw [hq, if_pos rfl] at h
    rw [if_pos rfl]
    have a := hi.ok _ (want1_err0 h)
    have b := nu_want1 (W := W) (inn { s with i := s.i + 1 }).2 [41]
    have c : nu W { s with i := s.i + 1 } ≤ nu W s := nu_le (Nat.le_succ _)
    show (inn { s with i := s.i + 1 }).1.wt + nu W (want1 W (inn { s with i := s.i + 1 }).2 [41]) ≤ _
    omega
  | false =>
    rw [hq, if_neg (by decide)] at h
    rw [if_neg (by decide)]
    by_cases c : (at_ W s).2.kind = 3 ∨ (at_ W s).2.kind = 1 ∨ Syn.one W s [[116, 114, 117, 101], [102, 97, 108, 115, 101], [105, 102], [109, 101, 114, 103, 101]] = true
    · rw [if_pos c] at h ⊢
      have hk : Syn.kind W s ≠ 0 := by
        rcases c with c | c | c
        · show (at_ W s).2.kind ≠ 0
          omega
        · show (at_ W s).2.kind ≠ 0
          omega
        · exact one_nz c
      have hp : (part W s).err = 0 := by
        by_cases q : (part W s).err = 0
        · exact q
        · exfalso
          have : (rest W inn mer (at_ W s) (part W s)).2.err = (part W s).err := by
            unfold rest
            split
            · rfl
            split
            · rfl
            split
            · rfl
            split
            · rw [is_bad q]; rfl
            split
            · simp only
              have a := hi.stk _ q
              rw [want1_bad (s := (inn (part W s)).2) (by rw [a]; exact q)]
              have b := hi.stk (inn (part W s)).2 (by rw [a]; exact q)
              rw [want1_bad (s := (inn (inn (part W s)).2).2) (by rw [b, a]; exact q)]
              have c := hi.stk (inn (inn (part W s)).2).2 (by rw [b, a]; exact q)
              rw [c, b, a]
            · simp only
              rw [name_bad q]
              simp only
              have a := hm.stk _ q
              have b := hm.stk (mer (part W s)).2 (by rw [a]; exact q)
              rw [b, a]
          rw [this] at h
          exact q h
      have a := rest_wt hi hm h
      have b := nu_part hk hp
      omega
    · rw [if_neg c] at h
      have e : s.err = 0 := Decidable.not_not.1 c0
      have e2 : (fail W 7 s).err = 7 := fail_err e 7
      rw [e2] at h
      exact absurd h (by decide)⟩
structure LvGw (W : Ws) (L : Lv) : Prop where
  expr : Gw W L.expr
  fby : Gw W L.fby
  un : Gw W L.un
  prim : Gw W L.prim
theorem lvOf_gw {last : Bool} {b : Lv} (hb : last = false → LvGw W b) : LvGw W (lvOf W last b) := by
  have hp : Gw W (primF W last b) := Gw.prim (Gw.inner fun h => (hb h).expr) (Gw.inner fun h => (hb h).prim)
  have hu : Gw W (unF W last b) := Gw.un hp fun h => (hb h).un
  have hw : Gw W (whnF W (unF W last b)) := Gw.when_ hu
  have hf : Gw W (fbyF W last b (unF W last b)) := Gw.right hw fun h => (hb h).fby
  have hm : Gw W (mulF W last b (unF W last b)) := Gw.row hf _
  have ha : Gw W (addF W last b (unF W last b)) := Gw.row hm _
  have hc : Gw W (cmpF W last b (unF W last b)) := Gw.cmp ha
  have hn : Gw W (andF W last b (unF W last b)) := Gw.row hc _
  have ho : Gw W (orF W last b (unF W last b)) := Gw.row hn _
  have he : Gw W (exprF W last b (unF W last b)) := Gw.right ho fun h => (hb h).expr
  rw [lvOf_eq]
  generalize exprF W last b (unF W last b) = f1 at *
  generalize fbyF W last b (unF W last b) = f2 at *
  generalize unF W last b = f3 at *
  generalize primF W last b = f4 at *
  exact ⟨he, hf, hu, hp⟩
theorem lv_gw : ∀ d, LvGw W (lv W d)
  | 0 => lvOf_gw (fun h => by cases h)
  | d + 1 => lvOf_gw fun _ => lv_gw d
/-! How long the texts are -/
theorem nm_len {nm : Bs} (h : Wok (nmW nm)) : nm.length ≤ 24 := by
  obtain ⟨s, h⟩ := h
  cases s with
  | nil => simp [wordS] at h
  | cons c q =>
    simp only [wordS] at h
    split at h
    · split at h
      · simp [nmW] at h
      · split at h
        · rename_i h24
          simp only [Option.some.injEq, nmW, Wd.mk.injEq, true_and, and_true] at h
          rw [← h]; exact h24
        · simp at h
    · split at h
      · split at h
        · simp [nmW] at h
        · simp at h
      · split at h
        · simp [nmW] at h
        · simp at h
theorem dec_len (n : Nat) (h : n < 9223372036854775808) : (dec n).length ≤ 19 := by
  have key : ∀ (k n : Nat), n < 10 ^ k → 0 < k → (dec n).length ≤ k := by
    intro k
    induction k with
    | zero => intro n _ h; omega
    | succ k ih =>
      intro n hn _
      rw [dec]
      split
      · simp
      · rename_i h10
        have hk : 0 < k := by
          cases k with
          | zero => simp at hn; omega
          | succ k => omega
        have := ih (n / 10) (by rw [Nat.pow_succ] at hn; omega) hk
        simp only [List.length_append, List.length_singleton]
        omega
  exact key 19 n (Nat.lt_of_lt_of_le h (by decide)) (by decide)
theorem op_len {o : Wd} (h : o ∈ opsW) : o.text.length ≤ 3 := (by decide +kernel : ∀ o ∈ opsW, o.text.length ≤ 3) o h
theorem un_len {op : Bs} {o : Wd} (h : (op, o) ∈ unsW) : o.text.length ≤ 3 := (by decide +kernel : ∀ p ∈ unsW, p.2.text.length ≤ 3) _ h
mutual
theorem tr_len : ∀ {e : Ex} {w : List Wd} {t : Bs}, Tr e w t → t.length + 2 ≤ 64 * e.wt
  | _, _, _, .int h => by have := dec_len _ h; rw [wt_zero]; omega
  | _, _, _, .tt => by rw [wt_zero]; decide
  | _, _, _, .ff => by rw [wt_zero]; decide
  | _, _, _, .var h => by have := nm_len h; rw [wt_zero]; omega
  | _, _, _, .call0 h => by have := nm_len h; rw [wt_zero]; simp only [List.length_append, List.length_cons, List.length_nil]; omega
  | _, _, _, .call h he hl => by
    have a := nm_len h
    have b := tr_len he
    have c := trs_len2 hl
    simp only [Ex.wt, Ex.wts, List.length_append, List.length_cons, List.length_nil]
    omega
  | _, _, _, .un ho hk => by
    have a := un_len ho
    have b := tr_len hk
    rw [wt_one]
    simp only [List.length_append, List.length_cons, List.length_nil]
    omega
  | _, _, _, .whn h hk => by
    have a := nm_len h
    have b := tr_len hk
    rw [wt_one]
    simp only [List.length_append, List.length_cons, List.length_nil, show sWhen.length = 4 from rfl]
    omega
  | _, _, _, .whnot h hk => by
    have a := nm_len h
    have b := tr_len hk
    rw [wt_one]
    simp only [List.length_append, List.length_cons, List.length_nil, show sWhen.length = 4 from rfl, show sNot.length = 3 from rfl]
    omega
  | _, _, _, .ite ha hb hc => by
    have a := tr_len ha
    have b := tr_len hb
    have c := tr_len hc
    simp only [Ex.wt, Ex.wts, List.length_append, List.length_cons, List.length_nil, show sIf.length = 2 from rfl, show sThen.length = 4 from rfl, show sElse.length = 4 from rfl]
    omega
  | _, _, _, .merge h ha hb => by
    have n := nm_len h
    have a := trp_len ha
    have b := trp_len hb
    rw [wt_two]
    simp only [List.length_append, List.length_cons, List.length_nil, show sMerge.length = 5 from rfl]
    omega
  | _, _, _, .bin ho ha hb => by
    have n := op_len ho
    have a := tr_len ha
    have b := tr_len hb
    rw [wt_two]
    simp only [List.length_append, List.length_cons, List.length_nil]
    omega
theorem trs_len2 : ∀ {l : List Ex} {w : List Wd} {t : Bs}, Trs l w t → t.length ≤ 64 * Ex.wts l
  | _, _, _, .nil => Nat.zero_le _
  | _, _, _, .cons he hl => by
    have a := tr_len he
    have b := trs_len2 hl
    simp only [Ex.wts, List.length_append, List.length_cons]
    omega
theorem trp_len : ∀ {e : Ex} {w : List Wd} {t : Bs}, Trp e w t → t.length + 2 ≤ 64 * e.wt
  | _, _, _, .var h => by have := nm_len h; rw [wt_zero]; simp only [List.length_append, List.length_cons, List.length_nil]; omega
  | _, _, _, .of _ h => tr_len h
end
end Go.Syn

namespace Go.Syn
open Go.Lex
set_option linter.unusedVariables false
set_option linter.unusedSimpArgs false
variable {W : Ws}
theorem name_wt {s : St} (h : (name W s).2.err = 0) : 1 + nu W (name W s).2 ≤ nu W s := by
  obtain ⟨h1, h2, h3⟩ := name_err0 h
  have : (name W s).2.i = s.i + 1 := by
    unfold name
    simp only [h2, if_true, h1]
  have := nu_succ (W := W) (s := s) (s' := (name W s).2) (by rw [h2]; decide) this
  omega
theorem want1_wt {s : St} {t : Bs} (h : (want1 W s t).err = 0) : 1 + nu W (want1 W s t) ≤ nu W s := by
  cases hi : Syn.is W s t with
  | true =>
    have e : want1 W s t = { s with i := s.i + 1 } := by unfold want1; rw [hi]; rfl
    rw [e]
    have := nu_succ (W := W) (s := s) (s' := { s with i := s.i + 1 }) (is_nz hi) rfl
    omega
  | false =>
    exfalso
    have e : want1 W s t = fail W 7 s := by unfold want1; rw [hi]; rfl
    rw [e] at h
    by_cases q : s.err = 0
    · rw [fail_err q] at h; exact absurd h (by decide)
    · rw [fail_bad q] at h; exact q h
theorem nu_want : ∀ (ts : List Bs) (s : St), nu W (want W s ts) ≤ nu W s
  | [], s => Nat.le_refl _
  | t :: ts, s => Nat.le_trans (nu_want ts (want1 W s t)) (nu_want1 s t)
theorem declared_wt {s : St} (h : (declared W s).2.err = 0) : 1 + nu W (declared W s).2 ≤ nu W s := by
  unfold declared at h ⊢
  simp only at h ⊢
  generalize hs1 : (if (at_ W s).2.kind = 1 then (if 64 < wrap (s.names + 1) then fail W 2 { s with names := wrap (s.names + 1) } else { s with names := wrap (s.names + 1) }) else s) = s1 at h ⊢
  have h1 : s1.i = s.i := by
    rw [← hs1]
    split
    · split
      · exact fail_same _ _
      · rfl
    · rfl
  have a := name_wt h
  have b : nu W s1 ≤ nu W s := nu_le (by omega)
  show 1 + nu W (name W s1).2 ≤ nu W s
  omega
theorem declL_wt : ∀ (k : Nat) (l : List Va) (s : St), (declL W k l s).2.err = 0 → (declL W k l s).1.length + nu W (declL W k l s).2 ≤ l.length + nu W s
  | 0, l, s, h => Nat.le_refl _
  | k + 1, l, s, h => by
    rw [declL] at h ⊢
    cases hq : Syn.is W s [44] with
    | false => exact Nat.le_refl _
    | true =>
      rw [hq, if_pos rfl] at h
      rw [if_pos rfl]
      simp only at h ⊢
      have h2 : (declared W { s with i := s.i + 1 }).2.err = 0 := by
        by_cases q : (declared W { s with i := s.i + 1 }).2.err = 0
        · exact q
        · rw [declL_bad q] at h; exact h
      have a := declared_wt h2
      have b := declL_wt k _ _ h
      have c : nu W { s with i := s.i + 1 } ≤ nu W s := nu_le (Nat.le_succ _)
      simp only [List.length_append, List.length_singleton] at b
      omega
theorem decl_wt {s : St} (h : (decl W s).2.err = 0) : (decl W s).1.length + nu W (decl W s).2 ≤ nu W s := by
  unfold decl at h ⊢
  simp only at h ⊢
  have key : (want1 W (declL W (W.length + 1) [(declared W s).1] (declared W s).2).2 [58]).err = 0 → (declL W (W.length + 1) [(declared W s).1] (declared W s).2).1.length + nu W (want1 W (declL W (W.length + 1) [(declared W s).1] (declared W s).2).2 [58]) ≤ nu W s := by
    intro q
    have h1 := want1_err0 q
    have h2 : (declared W s).2.err = 0 := by
      by_cases q : (declared W s).2.err = 0
      · exact q
      · rw [declL_bad q] at h1; exact h1
    have a := declared_wt h2
    have b := declL_wt _ _ _ h1
    have c := nu_want1 (W := W) (declL W (W.length + 1) [(declared W s).1] (declared W s).2).2 [58]
    simp only [List.length_singleton] at b
    omega
  generalize want1 W (declL W (W.length + 1) [(declared W s).1] (declared W s).2).2 [58] = s2 at *
  generalize (declL W (W.length + 1) [(declared W s).1] (declared W s).2).1 = l at *
  have c : nu W { s2 with i := s2.i + 1 } ≤ nu W s2 := nu_le (Nat.le_succ _)
  by_cases c1 : Syn.is W s2 [98, 111, 111, 108] = true
  · rw [if_pos c1]
    have := key (is_true c1).1
    show (l.map _).length + nu W { s2 with i := s2.i + 1 } ≤ _
    rw [List.length_map]
    omega
  rw [if_neg c1] at h ⊢
  by_cases c2 : Syn.is W s2 [105, 110, 116] = true
  · rw [if_pos c2]
    have := key (is_true c2).1
    show (l.map _).length + nu W { s2 with i := s2.i + 1 } ≤ _
    rw [List.length_map]
    omega
  rw [if_neg c2] at h
  exfalso
  have h : (fail W 7 s2).err = 0 := h
  by_cases q : s2.err = 0
  · rw [fail_err q] at h; exact absurd h (by decide)
  · rw [fail_bad q] at h; exact q h
theorem declsL_wt : ∀ (k : Nat) (l : List Va) (s : St), (declsL W k l s).2.err = 0 → (declsL W k l s).1.length + nu W (declsL W k l s).2 ≤ l.length + nu W s
  | 0, l, s, h => Nat.le_refl _
  | k + 1, l, s, h => by
    rw [declsL] at h ⊢
    cases hq : Syn.is W s [59] with
    | false => exact Nat.le_refl _
    | true =>
      rw [hq, if_pos rfl] at h
      rw [if_pos rfl]
      simp only at h ⊢
      have h2 : (decl W { s with i := s.i + 1 }).2.err = 0 := by
        by_cases q : (decl W { s with i := s.i + 1 }).2.err = 0
        · exact q
        · rw [declsL_bad q] at h; exact h
      have a := decl_wt h2
      have b := declsL_wt k _ _ h
      have c : nu W { s with i := s.i + 1 } ≤ nu W s := nu_le (Nat.le_succ _)
      simp only [List.length_append] at b
      omega
theorem decls_wt {s : St} (h : (decls W s).2.err = 0) : (decls W s).1.length + nu W (decls W s).2 ≤ nu W s := by
  unfold decls at h ⊢
  by_cases c : Syn.kind W s ≠ 1
  · rw [if_pos c]; simp
  rw [if_neg c] at h ⊢
  simp only at h ⊢
  have h2 : (decl W s).2.err = 0 := by
    by_cases q : (decl W s).2.err = 0
    · exact q
    · rw [declsL_bad q] at h; exact h
  have a := decl_wt h2
  have b := declsL_wt _ _ _ h
  omega
theorem local_wt {s : St} (h : (local_ W s).2.err = 0) : (local_ W s).1.length + nu W (local_ W s).2 ≤ nu W s := by
  unfold local_ at h ⊢
  simp only at h ⊢
  have key : (decl W s).2.err = 0 → (decl W s).1.length + nu W (decl W s).2 ≤ nu W s := decl_wt
  generalize decl W s = r at *
  cases hq : Syn.is W r.2 [119, 104, 101, 110] with
  | false =>
    rw [hq, if_neg (by decide)] at h
    rw [if_neg (by decide)]
    exact key h
  | true =>
    rw [hq, if_pos rfl] at h
    rw [if_pos rfl]
    have a := key (is_true hq).1
    have b := nu_name (W := W) (take W { r.2 with i := r.2.i + 1 } [110, 111, 116]).2
    have c := nu_take (W := W) { r.2 with i := r.2.i + 1 } [110, 111, 116]
    have d : nu W { r.2 with i := r.2.i + 1 } ≤ nu W r.2 := nu_le (Nat.le_succ _)
    show (r.1.map _).length + nu W (name W (take W { r.2 with i := r.2.i + 1 } [110, 111, 116]).2).2 ≤ _
    rw [List.length_map]
    omega
theorem localsL_wt : ∀ (k : Nat) (l : List Va) (s : St), (localsL W k l s).2.err = 0 → (localsL W k l s).1.length + nu W (localsL W k l s).2 ≤ l.length + nu W s
  | 0, l, s, h => Nat.le_refl _
  | k + 1, l, s, h => by
    rw [localsL] at h ⊢
    by_cases c : s.err = 0 ∧ Syn.kind W s = 1
    · rw [if_pos c] at h ⊢
      simp only at h ⊢
      have h2 : (want1 W (local_ W s).2 [59]).err = 0 := by
        by_cases q : (want1 W (local_ W s).2 [59]).err = 0
        · exact q
        · rw [localsL_bad q] at h; exact h
      have a := local_wt (want1_err0 h2)
      have b := localsL_wt k _ _ h
      have c := nu_want1 (W := W) (local_ W s).2 [59]
      simp only [List.length_append] at b
      omega
    · rw [if_neg c]; exact Nat.le_refl _
theorem locals_wt {s : St} (h : (locals_ W s).2.err = 0) : (locals_ W s).1.length + nu W (locals_ W s).2 ≤ nu W s := by
  unfold locals_ at h ⊢
  simp only at h ⊢
  have key : (if Syn.kind W s = 1 then local_ W s else ([], s)).2.err = 0 → (if Syn.kind W s = 1 then local_ W s else ([], s)).1.length + nu W (if Syn.kind W s = 1 then local_ W s else ([], s)).2 ≤ nu W s := by
    split
    · exact local_wt
    · intro _; simp
  generalize (if Syn.kind W s = 1 then local_ W s else ([], s)) = r at *
  have h2 : (want1 W r.2 [59]).err = 0 := by
    by_cases q : (want1 W r.2 [59]).err = 0
    · exact q
    · rw [localsL_bad q] at h; exact h
  have a := key (want1_err0 h2)
  have b := localsL_wt _ _ _ h
  have c := nu_want1 (W := W) r.2 [59]
  omega
def eqsWt : List Eqn → Nat
  | [] => 0
  | q :: l => (1 + q.e.wt) + eqsWt l
theorem eqsWt_append : ∀ a b : List Eqn, eqsWt (a ++ b) = eqsWt a + eqsWt b
  | [], b => by simp [eqsWt]
  | q :: a, b => by simp only [List.cons_append, eqsWt, eqsWt_append a b]; omega
theorem eqsL_wt : ∀ (k : Nat) (l : List Eqn) (s : St), (eqsL W k l s).2.err = 0 → eqsWt (eqsL W k l s).1 + nu W (eqsL W k l s).2 ≤ eqsWt l + nu W s
  | 0, l, s, h => Nat.le_refl _
  | k + 1, l, s, h => by
    rw [eqsL] at h ⊢
    by_cases c : s.err = 0 ∧ Syn.kind W s = 1
    · rw [if_pos c] at h ⊢
      simp only at h ⊢
      have key : (if (want1 W (name W s).2 [61]).err = 0 then (lv W 29).expr { want1 W (name W s).2 [61] with parts := 0 } else (.zero, { want1 W (name W s).2 [61] with parts := 0 })).2.err = 0 →
          1 + (if (want1 W (name W s).2 [61]).err = 0 then (lv W 29).expr { want1 W (name W s).2 [61] with parts := 0 } else (.zero, { want1 W (name W s).2 [61] with parts := 0 })).1.wt + nu W (if (want1 W (name W s).2 [61]).err = 0 then (lv W 29).expr { want1 W (name W s).2 [61] with parts := 0 } else (.zero, { want1 W (name W s).2 [61] with parts := 0 })).2 ≤ nu W s := by
        by_cases q : (want1 W (name W s).2 [61]).err = 0
        · rw [if_pos q]
          intro q2
          have a := name_wt (want1_err0 q)
          have b := nu_want1 (W := W) (name W s).2 [61]
          have c := ((lv_gw (W := W) 29).expr).ok _ q2
          have d : nu W { want1 W (name W s).2 [61] with parts := 0 } ≤ nu W (want1 W (name W s).2 [61]) := nu_le (Nat.le_refl _)
          omega
        · rw [if_neg q]
          intro q2
          exact absurd q2 q
      generalize (if (want1 W (name W s).2 [61]).err = 0 then (lv W 29).expr { want1 W (name W s).2 [61] with parts := 0 } else (.zero, { want1 W (name W s).2 [61] with parts := 0 })) = r at *
      have h2 : (want1 W r.2 [59]).err = 0 := by
        by_cases q : (want1 W r.2 [59]).err = 0
        · exact q
        · rw [eqsL_bad q] at h; exact h
      have a := key (want1_err0 h2)
      have b := eqsL_wt k _ _ h
      have c := nu_want1 (W := W) r.2 [59]
      rw [eqsWt_append] at b
      simp only [eqsWt] at b
      omega
    · rw [if_neg c]; exact Nat.le_refl _
def Nd.wt (n : Nd) : Nat := 1 + (n.ins.length + n.outs.length + n.locals.length + eqsWt n.eqs)
theorem node_wt {s : St} (h : (node W s).2.err = 0) : (node W s).1.wt + nu W (node W s).2 ≤ nu W s := by
  unfold node at h ⊢
  simp only at h ⊢
  have k0 : (want1 W { s with names := 0 } [110, 111, 100, 101]).err = 0 → 1 + nu W (want1 W { s with names := 0 } [110, 111, 100, 101]) ≤ nu W s := fun q => by
    have a := want1_wt q
    have b : nu W { s with names := 0 } ≤ nu W s := nu_le (Nat.le_refl _)
    omega
  generalize want1 W { s with names := 0 } [110, 111, 100, 101] = s1 at *
  have k1 : (name W s1).2.err = 0 → nu W (name W s1).2 ≤ nu W s1 ∧ s1.err = 0 := fun q => ⟨nu_name s1, (name_err0 q).1⟩
  generalize name W s1 = r1 at *
  have k2 : (decls W (want1 W r1.2 [40])).2.err = 0 → (decls W (want1 W r1.2 [40])).1.length + nu W (decls W (want1 W r1.2 [40])).2 ≤ nu W r1.2 ∧ r1.2.err = 0 := fun q => ⟨by
    have a := decls_wt q
    have b := nu_want1 (W := W) r1.2 [40]
    omega, by
    by_cases q1 : (want1 W r1.2 [40]).err = 0
    · exact want1_err0 q1
    · rw [decls_bad q1] at q; exact absurd q q1⟩
  generalize decls W (want1 W r1.2 [40]) = r2 at *
  have k3 : (decls W (want W r2.2 [[41], [114, 101, 116, 117, 114, 110, 115], [40]])).2.err = 0 → (decls W (want W r2.2 [[41], [114, 101, 116, 117, 114, 110, 115], [40]])).1.length + nu W (decls W (want W r2.2 [[41], [114, 101, 116, 117, 114, 110, 115], [40]])).2 ≤ nu W r2.2 ∧ r2.2.err = 0 := fun q => ⟨by
    have a := decls_wt q
    have b := nu_want (W := W) [[41], [114, 101, 116, 117, 114, 110, 115], [40]] r2.2
    omega, by
    by_cases q1 : (want W r2.2 [[41], [114, 101, 116, 117, 114, 110, 115], [40]]).err = 0
    · exact wants_err0 q1
    · rw [decls_bad q1] at q; exact absurd q q1⟩
  generalize decls W (want W r2.2 [[41], [114, 101, 116, 117, 114, 110, 115], [40]]) = r3 at *
  have k4 : (take W (want W r3.2 [[41], [59]]) [118, 97, 114]).2.err = 0 → r3.2.err = 0 ∧ nu W (take W (want W r3.2 [[41], [59]]) [118, 97, 114]).2 ≤ nu W r3.2 := fun q => by
    rw [take_err] at q
    exact ⟨wants_err0 q, Nat.le_trans (nu_take _ _) (nu_want _ _)⟩
  generalize take W (want W r3.2 [[41], [59]]) [118, 97, 114] = r4 at *
  have k5 : (if r4.1 = true then locals_ W r4.2 else ([], r4.2)).2.err = 0 → (if r4.1 = true then locals_ W r4.2 else ([], r4.2)).1.length + nu W (if r4.1 = true then locals_ W r4.2 else ([], r4.2)).2 ≤ nu W r4.2 ∧ r4.2.err = 0 := by
    split
    · intro q
      refine ⟨locals_wt q, ?_⟩
      by_cases q1 : r4.2.err = 0
      · exact q1
      · rw [locals_bad q1] at q; exact q
    · intro q
      exact ⟨by simp, q⟩
  generalize (if r4.1 = true then locals_ W r4.2 else ([], r4.2)) = r5 at *
  have k6 : (eqsL W (W.length + 1) [] (want1 W r5.2 [108, 101, 116])).2.err = 0 → eqsWt (eqsL W (W.length + 1) [] (want1 W r5.2 [108, 101, 116])).1 + nu W (eqsL W (W.length + 1) [] (want1 W r5.2 [108, 101, 116])).2 ≤ nu W r5.2 ∧ r5.2.err = 0 := fun q => ⟨by
    have a := eqsL_wt _ _ _ q
    have b := nu_want1 (W := W) r5.2 [108, 101, 116]
    simp only [eqsWt] at a
    omega, by
    by_cases q1 : (want1 W r5.2 [108, 101, 116]).err = 0
    · exact want1_err0 q1
    · rw [eqsL_bad q1] at q; exact absurd q q1⟩
  generalize eqsL W (W.length + 1) [] (want1 W r5.2 [108, 101, 116]) = r6 at *
  have k7 : nu W (take W (want1 W r6.2 [116, 101, 108]) [59]).2 ≤ nu W r6.2 := Nat.le_trans (nu_take _ _) (nu_want1 _ _)
  rw [take_err] at h
  have h6 := want1_err0 h
  obtain ⟨a6, h5⟩ := k6 h6
  obtain ⟨a5, h4⟩ := k5 h5
  obtain ⟨h3, a4⟩ := k4 h4
  obtain ⟨a3, h2⟩ := k3 h3
  obtain ⟨a2, h1⟩ := k2 h2
  obtain ⟨a1, h0⟩ := k1 h1
  have a0 := k0 h0
  simp only [Nd.wt]
  omega
def ndsWt : List Nd → Nat
  | [] => 0
  | n :: l => n.wt + ndsWt l
theorem ndsWt_append : ∀ a b : List Nd, ndsWt (a ++ b) = ndsWt a + ndsWt b
  | [], b => by simp [ndsWt]
  | q :: a, b => by simp only [List.cons_append, ndsWt, ndsWt_append a b]; omega
theorem nodesL_wt : ∀ (k : Nat) (l : List Nd) (s : St), (nodesL W k l s).2.err = 0 → ndsWt (nodesL W k l s).1 + nu W (nodesL W k l s).2 ≤ ndsWt l + nu W s
  | 0, l, s, h => Nat.le_refl _
  | k + 1, l, s, h => by
    rw [nodesL] at h ⊢
    by_cases c : s.err = 0 ∧ (l = [] ∨ Syn.kind W s ≠ 0)
    · rw [if_pos c] at h ⊢
      by_cases c32 : l.length = 32
      · rw [if_pos c32] at h
        rw [fail_err c.1] at h
        exact absurd h (by decide)
      · rw [if_neg c32] at h ⊢
        have key : (node W s).2.err = 0 → (node W s).1.wt + nu W (node W s).2 ≤ nu W s := node_wt
        generalize node W s = r at *
        have h : (nodesL W k (l ++ [r.1]) r.2).2.err = 0 := h
        show ndsWt (nodesL W k (l ++ [r.1]) r.2).1 + nu W (nodesL W k (l ++ [r.1]) r.2).2 ≤ _
        have h2 : r.2.err = 0 := by
          by_cases q : r.2.err = 0
          · exact q
          · have : nodesL W k (l ++ [r.1]) r.2 = (l ++ [r.1], r.2) := by
              cases k with
              | zero => rw [nodesL]
              | succ k => rw [nodesL, if_neg fun x => q x.1]
            rw [this] at h; exact h
        have a := key h2
        have b := nodesL_wt k _ _ h
        rw [ndsWt_append] at b
        simp only [ndsWt] at b
        omega
    · rw [if_neg c]; exact Nat.le_refl _
theorem parse_wt {t : Bs} {l : List Nd} (h : parse t = .ok l) : ndsWt l ≤ 40000 := by
  unfold parse at h
  by_cases hb : 16384 < t.length
  · rw [if_pos hb] at h; simp at h
  rw [if_neg hb] at h
  cases hc : cutS t.length t with
  | error e => rw [hc] at h; simp at h
  | ok ls =>
    rw [hc] at h
    simp only at h
    have hlen := (cut_words _ _ (Nat.lt_succ_self _) _ hc).2.1
    have key := nodesL_wt (W := ls ++ [(t.length, ⟨0, [], 0⟩)]) 33 [] ⟨0, 0, 0, 0, 0⟩
    have hn : nu (ls ++ [(t.length, ⟨0, [], 0⟩)]) ⟨0, 0, 0, 0, 0⟩ = ls.length + 1 := by simp [nu]
    rw [hn] at key
    generalize nodesL (ls ++ [(t.length, ⟨0, [], 0⟩)]) 33 [] ⟨0, 0, 0, 0, 0⟩ = r at *
    by_cases he : r.2.err = 0
    · rw [if_pos he] at h
      simp only [Except.ok.injEq] at h
      subst h
      have := key he
      simp only [ndsWt] at this
      omega
    · rw [if_neg he] at h; simp at h
/-! The texts' lengths -/
theorem vl_tlen {v : Va} (h : WfL v) : (vT v).length ≤ 64 := by
  obtain ⟨w, h⟩ := h
  have key : ∀ {nm : Bs} {k pos : Nat} {w : List Wd}, Vd ⟨nm, k, [], false, pos⟩ w → nm.length ≤ 24 ∧ (k = 1 ∨ k = 2) := by
    intro nm k pos w h
    cases h with
    | bool h => exact ⟨nm_len h, .inl rfl⟩
    | int h => exact ⟨nm_len h, .inr rfl⟩
  cases h with
  | no h =>
    have : ∃ nm k pos, v = ⟨nm, k, [], false, pos⟩ := by cases h <;> exact ⟨_, _, _, rfl⟩
    obtain ⟨nm, k, pos, rfl⟩ := this
    obtain ⟨a, b⟩ := key h
    rcases b with rfl | rfl <;> simp [vT, sBool, sInt] <;> omega
  | on h ho =>
    obtain ⟨a, b⟩ := key h
    have c := nm_len ho
    rcases b with rfl | rfl <;> simp [vT, sBool, sInt, sWhen, wok_ne ho] <;> omega
  | off h ho =>
    obtain ⟨a, b⟩ := key h
    have c := nm_len ho
    rcases b with rfl | rfl <;> simp [vT, sBool, sInt, sWhen, sNot, wok_ne ho] <;> omega
theorem wfV_L {v : Va} (h : WfV v) : WfL v := by
  obtain ⟨w, h⟩ := h
  exact ⟨_, .no h⟩
theorem vs_tlen : ∀ {l : List Va}, (∀ v ∈ l, WfL v) → (vsT l).length ≤ 70 * l.length
  | [], _ => Nat.le_refl _
  | [v], h => by have := vl_tlen (h v (by simp)); simp only [vsT, List.length_singleton]; omega
  | v :: w :: l, h => by
    have a := vl_tlen (h v (by simp))
    have b := vs_tlen (l := w :: l) fun x hx => h x (List.mem_cons_of_mem _ hx)
    simp only [vsT, List.length_append, List.length_cons] at b ⊢
    omega
theorem head_tlen {n : Nd} (h : WfN n) : (headT n).length ≤ 70 + 70 * (n.ins.length + n.outs.length + n.locals.length) := by
  have a := nm_len h.name
  have b := vs_tlen fun v hv => wfV_L (h.ins v hv)
  have c := vs_tlen fun v hv => wfV_L (h.outs v hv)
  have d := vs_tlen h.locals
  unfold headT
  split
  · simp [sNode, sReturns, sLet]
    omega
  · simp [sNode, sReturns, sLet, sVar]
    omega
end Go.Syn

namespace Go.Abs
open Go
set_option linter.unusedVariables false
def WAt (T e : TypeId) (H : AHeap) (i : Nat) (buf : Option Nat) (acc : List UInt8) : Prop :=
  ∃ c0 c1, H.get i = some (.row T [c0, c1]) ∧ (c0 = .nilptr ∨ c0 = .ptr i 0) ∧
    ((acc = [] ∧ c1 = .nilsl ∧ buf = none) ∨ ∃ j, buf = some j ∧ j ≠ i ∧ acc ≠ [] ∧ c1 = .sl j 0 1 acc.length acc.length true ∧ H.get j = some (.row e (strCs acc)))
def Wr (T e : TypeId) (H : AHeap) (i : Nat) (buf : Option Nat) (t : List UInt8) (h : AHeap) (acc : List UInt8) : Prop :=
  ∃ buf', WAt T e h i buf' (acc ++ t) ∧ (buf' = buf ∨ ∃ j, buf' = some j ∧ H.next ≤ j) ∧ H.next ≤ h.next ∧ ∀ j x, j ≠ i → buf ≠ some j → H.get j = some x → h.get j = some x
def Lts (H : AHeap) : Prop := ∀ i x, H.get i = some x → i < H.next
theorem Lts.set {H : AHeap} (h : Lts H) {i : Nat} (hi : i < H.next) (x : AObj) : Lts (H.set i x) := fun j y hj => by
  have hj : (if j = i then some x else H.get j) = some y := hj
  show j < H.next
  split at hj
  · omega
  · exact h _ _ hj
theorem Lts.push {H : AHeap} (h : Lts H) (x : AObj) : Lts (H.push x) := fun j y hj => by
  have hj : (if j = H.next then some x else H.get j) = some y := hj
  show j < H.next + 1
  split at hj
  · omega
  · have := h _ _ hj; omega
theorem Lts.kill {H : AHeap} (h : Lts H) (i : Nat) : Lts (H.kill i) := fun j y hj => by
  have hj : (if j = i then none else H.get j) = some y := hj
  show j < H.next
  split at hj
  · simp at hj
  · exact h _ _ hj
theorem write_exw {P : Program} {G : Nat → Option AV} {f ck : FuncId} {T e t u uu : TypeId} (hck : IsCheck P ck T uu) (hf : IsWrite P f ck T e t u) {H : AHeap} {i : Nat} {buf : Option Nat} {acc s : List UInt8} (hw : Lts H) (h : WAt T e H i buf acc) (hl : acc.length + s.length ≤ 140737488355328) :
    ∃ H', Does P G f [.ptr i 0, .str s] H (fun r h => r = .tuple [.int .i64 s.length, .niliface] ∧ h = H') ∧ Wr T e H i buf s H' acc ∧ Lts H' := by
  obtain ⟨c0, c1, hi, hc, h1⟩ := h
  have hin : i < H.next := hw _ _ hi
  have ne1 : H.next ≠ i := by omega
  rcases h1 with ⟨rfl, rfl, rfl⟩ | ⟨j, rfl, hji, hne, rfl, hj⟩
  · by_cases hs : s = []
    · subst hs
      refine ⟨_, write_does hck hf hi hc (by simp) (H' := H.set i (.row T [.ptr i 0, .nilsl])) (by simp [bWrite]), ⟨none, ⟨_, _, if_pos rfl, .inr rfl, .inl ⟨rfl, rfl, rfl⟩⟩, .inl rfl, Nat.le_refl _, fun j x h1 _ hx => ?_⟩, (hw.set hin _)⟩
      show (if j = i then _ else H.get j) = _
      rw [if_neg h1]; exact hx
    · refine ⟨_, write_does hck hf hi hc (by simp at hl; omega) (H' := ((H.set i (.row T [.ptr i 0, .nilsl])).push (.row e (strCs s))).set i (.row T [.ptr i 0, .sl H.next 0 1 s.length s.length true])) (by simp [bWrite, hs]), ⟨some H.next, ⟨_, _, if_pos rfl, .inr rfl, .inr ⟨H.next, rfl, ne1, by simpa using hs, by simp, ?_⟩⟩, .inr ⟨_, rfl, Nat.le_refl _⟩, Nat.le_succ _, fun k x h1 _ hx => ?_⟩, (((hw.set hin _).push _).set (Nat.lt_succ_of_lt hin) _)⟩
      · show (if H.next = i then _ else if H.next = H.next then _ else _) = _
        rw [if_neg ne1, if_pos rfl]; rfl
      · have := hw _ _ hx
        show (if k = i then _ else if k = H.next then _ else if k = i then _ else H.get k) = _
        rw [if_neg h1, if_neg (by omega), if_neg h1]; exact hx
  · have hjn : j < H.next := hw _ _ hj
    by_cases hs : s = []
    · subst hs
      refine ⟨_, write_does hck hf hi hc (by simp) (H' := H.set i (.row T [.ptr i 0, .sl j 0 1 acc.length acc.length true])) (by simp [bWrite, hj, hji, strCs_length]), ⟨some j, ⟨_, _, if_pos rfl, .inr rfl, .inr ⟨j, rfl, hji, by simpa using hne, by simp, ?_⟩⟩, .inl rfl, Nat.le_refl _, fun k x h1 _ hx => ?_⟩, (hw.set hin _)⟩
      · show (if j = i then _ else H.get j) = _
        rw [if_neg hji, List.append_nil]; exact hj
      · show (if k = i then _ else H.get k) = _
        rw [if_neg h1]; exact hx
    · have hB := bWrite_sl (T := T) (e := e) (s := s) hj (strCs_length acc).symm hji
      rw [if_neg hs, if_pos hl] at hB
      refine ⟨_, write_does hck hf hi hc (by omega) hB, ⟨some H.next, ⟨_, _, if_pos rfl, .inr rfl, .inr ⟨H.next, rfl, ne1, by simp [hne], by simp, ?_⟩⟩, .inr ⟨_, rfl, Nat.le_refl _⟩, Nat.le_succ _, fun k x h1 h2 hx => ?_⟩, ((((hw.set hin _).kill _).push _).set (Nat.lt_succ_of_lt hin) _)⟩
      · show (if H.next = i then _ else if H.next = H.next then _ else _) = _
        rw [if_neg ne1, if_pos rfl, strCs_append]
      · have := hw _ _ hx
        show (if k = i then _ else if k = H.next then _ else if k = j then _ else if k = i then _ else H.get k) = _
        rw [if_neg h1, if_neg (by omega), if_neg (by intro e; exact h2 (by rw [e])), if_neg h1]; exact hx
theorem write_ex {P : Program} {G : Nat → Option AV} {f ck : FuncId} {T e t u uu : TypeId} (hck : IsCheck P ck T uu) (hf : IsWrite P f ck T e t u) {H : AHeap} {i : Nat} {buf : Option Nat} {acc s : List UInt8} (hw : ∀ i x, H.get i = some x → i < H.next) (h : WAt T e H i buf acc) (hl : acc.length + s.length ≤ 140737488355328) :
    ∃ H', Does P G f [.ptr i 0, .str s] H (fun r h => r = .tuple [.int .i64 s.length, .niliface] ∧ h = H') ∧ Wr T e H i buf s H' acc := by
  obtain ⟨H', h1, h2, _⟩ := write_exw (G := G) hck hf hw h hl
  exact ⟨H', h1, h2⟩
theorem write_wr {P : Program} {G : Nat → Option AV} {f ck : FuncId} {T e t u uu : TypeId} (hck : IsCheck P ck T uu) (hf : IsWrite P f ck T e t u) {H : AHeap} {i : Nat} {buf : Option Nat} {acc s : List UInt8} (hw : H.Wf) (h : WAt T e H i buf acc) (hl : acc.length + s.length ≤ 140737488355328) :
    Does P G f [.ptr i 0, .str s] H fun r h => r = .tuple [.int .i64 s.length, .niliface] ∧ Wr T e H i buf s h acc := by
  obtain ⟨H', h1, h2⟩ := write_ex (G := G) hck hf (fun i x h => (hw i x h).1) h hl
  exact h1.mono fun r h' ⟨a, b⟩ => ⟨a, b ▸ h2⟩
theorem Wr.trans {T e : TypeId} {H H1 H2 : AHeap} {i : Nat} {buf b1 : Option Nat} {acc s t : List UInt8} (hb : b1 = buf ∨ ∃ j, b1 = some j ∧ H.next ≤ j) (hw : H.Wf) (hn : H.next ≤ H1.next) (hk : ∀ j x, j ≠ i → buf ≠ some j → H.get j = some x → H1.get j = some x)
    (h : Wr T e H1 i b1 t H2 (acc ++ s)) : Wr T e H i buf (s ++ t) H2 acc := by
  obtain ⟨b2, h1, h2, h3, h4⟩ := h
  refine ⟨b2, by rw [← List.append_assoc]; exact h1, ?_, by omega, fun j x hj hbj hx => h4 j x hj ?_ (hk j x hj hbj hx)⟩
  · rcases h2 with rfl | ⟨j, rfl, hj⟩
    · exact hb
    · exact .inr ⟨j, rfl, by omega⟩
  · rintro rfl
    rcases hb with e | ⟨k, e, hk⟩
    · exact hbj e.symm
    · have := (hw _ _ hx).1
      cases e
      omega
theorem WAt.more {T e : TypeId} {H h : AHeap} {i : Nat} {buf : Option Nat} {acc : List UInt8} (hw : WAt T e H i buf acc) (hk : ∀ j x, H.get j = some x → h.get j = some x) : WAt T e h i buf acc := by
  obtain ⟨c0, c1, h1, h2, h3⟩ := hw
  refine ⟨c0, c1, hk _ _ h1, h2, ?_⟩
  rcases h3 with h3 | ⟨j, a, b, c, d, e⟩
  · exact .inl h3
  · exact .inr ⟨j, a, b, c, d, hk _ _ e⟩
theorem Wr.more {T e : TypeId} {H h h' : AHeap} {i : Nat} {buf : Option Nat} {acc t : List UInt8} (hw : Wr T e H i buf t h acc) (hn : h.next ≤ h'.next) (hk : ∀ j x, h.get j = some x → h'.get j = some x) : Wr T e H i buf t h' acc := by
  obtain ⟨b, h1, h2, h3, h4⟩ := hw
  exact ⟨b, h1.more hk, h2, by omega, fun j x a b hx => hk _ _ (h4 j x a b hx)⟩
theorem Wr.refl {T e : TypeId} {H : AHeap} {i : Nat} {buf : Option Nat} {acc : List UInt8} (hw : WAt T e H i buf acc) : Wr T e H i buf [] H acc :=
  ⟨buf, by rw [List.append_nil]; exact hw, .inl rfl, Nat.le_refl _, fun _ _ _ _ hx => hx⟩
theorem Wr.then {T e : TypeId} {H H1 H2 : AHeap} {i : Nat} {buf : Option Nat} {acc s t : List UInt8} (hw : H.Wf) (h : Wr T e H i buf s H1 acc) (g : ∀ b, WAt T e H1 i b (acc ++ s) → Wr T e H1 i b t H2 (acc ++ s)) : Wr T e H i buf (s ++ t) H2 acc := by
  obtain ⟨b, h1, h2, h3, h4⟩ := h
  exact Wr.trans h2 hw h3 h4 (g b h1)
end Go.Abs

namespace Go.Syn
open Go.Lex
set_option linter.unusedVariables false
set_option linter.unusedSimpArgs false
def sepC : List Bs → Bs
  | [] => []
  | t :: l => 44 :: 32 :: (t ++ sepC l)
def joinC : List Bs → Bs
  | [] => []
  | t :: l => t ++ sepC l
def txO (op nm : Bs) (n : Nat) (l p : List Bs) : Bs :=
  if op = sInt then dec n else
  if op = sBool then (if n = 0 then sFalse else sTrue) else
  if op = sVar then nm else
  if op = sCall then nm ++ (40 :: (joinC l ++ [41])) else
  if op = sWhen then (match l with | [t] => 40 :: (t ++ (32 :: (sWhen ++ (32 :: ((if n = 0 then sNot ++ [32] else []) ++ (nm ++ [41])))))) | _ => []) else
  if op = sIf then (match l with | [ta, tb, tc] => 40 :: (sIf ++ (32 :: (ta ++ (32 :: (sThen ++ (32 :: (tb ++ (32 :: (sElse ++ (32 :: (tc ++ [41])))))))))))  | _ => []) else
  if op = sMerge then (match p with | [ta, tb] => 40 :: (sMerge ++ (32 :: (nm ++ (32 :: (ta ++ (32 :: (tb ++ [41]))))))) | _ => []) else
  match l with
  | [t] => 40 :: ((if op = sNeg then [45] else op) ++ (32 :: (t ++ [41])))
  | [ta, tb] => 40 :: (ta ++ (32 :: (op ++ (32 :: (tb ++ [41])))))
  | _ => []
def Ex.op : Ex → Bs
  | .mk op _ _ _ _ => op
mutual
def tx : Ex → Bs
  | .mk op nm n _ ks => txO op nm n (txs ks) (txps ks)
def txs : List Ex → List Bs
  | [] => []
  | e :: l => tx e :: txs l
def txps : List Ex → List Bs
  | [] => []
  | e :: l => (if e.op = sVar then 40 :: (tx e ++ [41]) else tx e) :: txps l
end
theorem er_op (e : Ex) : e.er.op = e.op := by cases e; simp [Ex.er, Ex.op]
mutual
theorem tx_er : ∀ e : Ex, tx e.er = tx e
  | .mk op nm n pos ks => by
    rw [Ex.er, tx, tx, txs_er ks, txps_er ks]
theorem txs_er : ∀ l : List Ex, txs (Ex.ers l) = txs l
  | [] => rfl
  | e :: l => by rw [Ex.ers, txs, txs, tx_er e, txs_er l]
theorem txps_er : ∀ l : List Ex, txps (Ex.ers l) = txps l
  | [] => rfl
  | e :: l => by rw [Ex.ers, txps, txps, tx_er e, txps_er l, er_op]
end
theorem ops_key {o : Wd} (h : o ∈ opsW) : o.text ≠ sInt ∧ o.text ≠ sBool ∧ o.text ≠ sVar ∧ o.text ≠ sCall ∧ o.text ≠ sWhen ∧ o.text ≠ sIf ∧ o.text ≠ sMerge := (by decide +kernel : ∀ o ∈ opsW, o.text ≠ sInt ∧ o.text ≠ sBool ∧ o.text ≠ sVar ∧ o.text ≠ sCall ∧ o.text ≠ sWhen ∧ o.text ≠ sIf ∧ o.text ≠ sMerge) o h
mutual
theorem tr_tx : ∀ {e : Ex} {w : List Wd} {t : Bs}, Tr e w t → t = tx e
  | _, _, _, .int h => by simp [tx, txO]
  | _, _, _, .tt => by rw [tx]; rfl
  | _, _, _, .ff => by rw [tx]; rfl
  | _, _, _, .var h => by rw [tx]; rfl
  | _, _, _, .call0 h => by rw [tx, txs, txps]; rfl
  | _, _, _, @Tr.call nm pos e l w ws t ts h he hl => by
    have h1 := tr_tx he
    have h2 := trs_tx hl
    subst h1
    subst h2
    rw [tx, txs]
    show nm ++ (40 :: (tx e ++ (sepC (txs l) ++ [41]))) = nm ++ (40 :: (joinC (tx e :: txs l) ++ [41]))
    rw [joinC, List.append_assoc]
  | _, _, _, @Tr.un op o pos k w t ho hk => by
    have h := tr_tx hk
    subst h
    rw [tx, txs, txs, txps, txps]
    simp only [unsW, List.mem_cons, Prod.mk.injEq, List.not_mem_nil, or_false] at ho
    rcases ho with ⟨rfl, rfl⟩ | ⟨rfl, rfl⟩ | ⟨rfl, rfl⟩ <;> rfl
  | _, _, _, .whn h hk => by
    rw [tx, txs, txs, ← tr_tx hk]; rfl
  | _, _, _, .whnot h hk => by
    rw [tx, txs, txs, ← tr_tx hk]; rfl
  | _, _, _, .ite ha hb hc => by
    rw [tx, txs, txs, txs, txs, ← tr_tx ha, ← tr_tx hb, ← tr_tx hc]; rfl
  | _, _, _, .merge h ha hb => by
    rw [tx, txps, txps, txps, ← trp_tx ha, ← trp_tx hb]; rfl
  | _, _, _, @Tr.bin o pos a b u v ta tb ho ha hb => by
    obtain ⟨h1, h2, h3, h4, h5, h6, h7⟩ := ops_key ho
    rw [tx, txs, txs, txs, txps, txps, txps, ← tr_tx ha, ← tr_tx hb, txO, if_neg h1, if_neg h2, if_neg h3, if_neg h4, if_neg h5, if_neg h6, if_neg h7]
theorem trs_tx : ∀ {l : List Ex} {w : List Wd} {t : Bs}, Trs l w t → t = sepC (txs l)
  | _, _, _, .nil => rfl
  | _, _, _, .cons he hl => by rw [txs, sepC, ← tr_tx he, ← trs_tx hl]
theorem trp_tx : ∀ {e : Ex} {w : List Wd} {t : Bs}, Trp e w t → t = (if e.op = sVar then 40 :: (tx e ++ [41]) else tx e)
  | _, _, _, .var h => by rw [tx]; rfl
  | _, _, _, @Trp.of op nm n pos ks w t hn h => by
    rw [if_neg (show ¬ (Ex.mk op nm n pos ks).op = sVar from hn)]; exact tr_tx h
end
theorem vT_er (v : Va) : vT v.er = vT v := rfl
theorem vsT_er : ∀ l : List Va, vsT (l.map Va.er) = vsT l
  | [] => rfl
  | [v] => rfl
  | v :: w :: l => by
    have := vsT_er (w :: l)
    rw [List.map_cons] at this
    rw [List.map_cons, List.map_cons, vsT, vsT, this, vT_er]
theorem headT_er (n : Nd) : headT n.er = headT n := by
  obtain ⟨nm, a, b, c, d, e⟩ := n
  simp only [headT, Nd.er, vsT_er, List.map_eq_nil_iff]
def eqT (q : Eqn) : Bs := 32 :: 32 :: (q.name ++ (32 :: 61 :: 32 :: (tx q.e ++ [59, 10])))
def eqsT : List Eqn → Bs
  | [] => []
  | q :: l => eqT q ++ eqsT l
def ndT (n : Nd) : Bs := headT n ++ (eqsT n.eqs ++ (sTel ++ [59, 10]))
def showT : List Nd → Bs
  | [] => []
  | n :: l => ndT n ++ showT l
theorem eqsT_append : ∀ a b : List Eqn, eqsT (a ++ b) = eqsT a ++ eqsT b
  | [], b => rfl
  | q :: a, b => by rw [List.cons_append, eqsT, eqsT, eqsT_append a b, List.append_assoc]
theorem showT_append : ∀ a b : List Nd, showT (a ++ b) = showT a ++ showT b
  | [], b => rfl
  | q :: a, b => by rw [List.cons_append, showT, showT, showT_append a b, List.append_assoc]
theorem eqsT_er : ∀ l : List Eqn, eqsT (l.map Eqn.er) = eqsT l
  | [] => rfl
  | q :: l => by
    rw [List.map_cons, eqsT, eqsT, eqsT_er l]
    simp only [eqT, Eqn.er, tx_er]
theorem ndT_er (n : Nd) : ndT n.er = ndT n := by
  have h : n.er.eqs = n.eqs.map Eqn.er := rfl
  rw [ndT, ndT, headT_er, h, eqsT_er]
theorem showT_er : ∀ l : List Nd, showT (l.map Nd.er) = showT l
  | [] => rfl
  | n :: l => by rw [List.map_cons, showT, showT, showT_er l, ndT_er]
theorem show_eqs_cuts {n : Nat} : ∀ (l : List Eqn), (∀ q ∈ l, WfQ q) → ∃ we, Es l we ∧ ∀ {q : Bs} {L : List Wd}, Cuts n q L → Cuts n (eqsT l ++ q) (we ++ L)
  | [], _ => ⟨[], .nil, fun h => h⟩
  | ⟨nm, e, pos⟩ :: l, hw => by
    obtain ⟨h1, w, t, ht⟩ := hw ⟨nm, e, pos⟩ (by simp)
    obtain ⟨we, he, ce⟩ := show_eqs_cuts (n := n) l fun q hq => hw q (by simp [hq])
    obtain rfl := tr_tx ht
    refine ⟨nmW nm :: eqs_ :: (w ++ (semi :: we)), .cons h1 (.inl ⟨_, ht⟩) he, fun {q L} h => ?_⟩
    have c0 : Cuts n (tx e ++ 59 :: 10 :: (eqsT l ++ q)) (w ++ (semi :: (we ++ L))) := tr_cuts ht 59 _ _ (by decide) (cuts_semi (cuts_nl (ce h)))
    have c := (Cuts.wb (w := nmW nm) h1 (cuts_eq c0.blank)).blank.blank
    have e1 : eqsT (⟨nm, e, pos⟩ :: l) ++ q = 32 :: 32 :: ((nmW nm).text ++ 32 :: 61 :: 32 :: (tx e ++ 59 :: 10 :: (eqsT l ++ q))) := by
      simp [eqsT, eqT, nmW]
    have e2 : nmW nm :: eqs_ :: (w ++ (semi :: we)) ++ L = nmW nm :: eqs_ :: (w ++ (semi :: (we ++ L))) := by simp
    rw [e1, e2]
    exact c
theorem show_cuts {n : Nat} : ∀ (l : List Nd), (∀ d ∈ l, WfN d) → ∃ w, Ns l w ∧ Cuts n (showT l) w
  | [], _ => ⟨[], .nil, Cuts.nil⟩
  | d :: l, hw => by
    obtain ⟨w, h1, c1⟩ := show_cuts (n := n) l fun q hq => hw q (by simp [hq])
    have hd := hw d (by simp)
    obtain ⟨we, he, ce⟩ := show_eqs_cuts (n := n) d.eqs hd.eqs
    obtain ⟨f, hf, cf⟩ := head_cuts (n := n) hd true
    refine ⟨f we ++ w, .cons (hf we he) h1, ?_⟩
    have c2 : Cuts n (sTel ++ 59 :: (10 :: showT l)) (kw sTel :: semi :: w) := Cuts.ws (w := kw sTel) (Wok.kw (by decide)) (by decide : (2 : Nat) ≠ 4) (by decide) (cuts_semi (cuts_nl c1))
    have := cf (eqsT d.eqs) (sTel ++ 59 :: 10 :: showT l) we w (by simpa using ce c2)
    simpa [showT, ndT] using this
end Go.Syn

namespace Go.Proofs.YtbakbednenfofaaGreatDoor
open Go Go.Shelf
def shJoin_ren : Go.Shelf.Ren := ⟨fun | 156 => 36 | 165 => 55 | 166 => 16 | 169 => 19 | 240 => 35 | 241 => 69 | 276 => 54 | 277 => 85 | n => n, fun | 31 => 84 | 9 => 9 | 3 => 3 | 4 => 4 | 0 => 0 | 20 => 20 | 72 => 59 | 76 => 64 | 70 => 56 | 37 => 57 | 75 => 63 | 127 => 89 | 164 => 94 | 5 => 5 | 80 => 33 | n => n, fun | n => n⟩
theorem shJoin : Go.Proofs.Lays.n156 Tryz.prog shJoin_ren := {
  mixed := by kernel_rfl
  f156 := Tryz.func36.trans (congrArg some (by kernel_rfl))
  f165 := Tryz.func55.trans (congrArg some (by kernel_rfl))
  f166 := Tryz.func16.trans (congrArg some (by kernel_rfl))
  f169 := Tryz.func19.trans (congrArg some (by kernel_rfl))
  f240 := Tryz.func35.trans (congrArg some (by kernel_rfl))
  f241 := Tryz.func69.trans (congrArg some (by kernel_rfl))
  f276 := Tryz.func54.trans (congrArg some (by kernel_rfl))
  f277 := Tryz.func85.trans (congrArg some (by kernel_rfl))
  t0 := Tryz.underlying0
  a0 := Tryz.isAgg0
  z0 := Tryz.sizeOf0
  v0 := Tryz.zeroValue0
  t3 := Tryz.underlying3
  a3 := Tryz.isAgg3
  z3 := Tryz.sizeOf3
  v3 := Tryz.zeroValue3
  t4 := Tryz.underlying4
  a4 := Tryz.isAgg4
  z4 := Tryz.sizeOf4
  v4 := Tryz.zeroValue4
  t9 := Tryz.underlying9
  a9 := Tryz.isAgg9
  z9 := Tryz.sizeOf9
  v9 := Tryz.zeroValue9
  t20 := Tryz.underlying20
  a20 := Tryz.isAgg20
  z20 := Tryz.sizeOf20
  v20 := Tryz.zeroValue20
  t31 := Tryz.underlying84
  a31 := Tryz.isAgg84
  z31 := Tryz.sizeOf84
  v31 := Tryz.zeroValue84
  t37 := Tryz.underlying57
  a37 := Tryz.isAgg57
  z37 := Tryz.sizeOf57
  v37 := Tryz.zeroValue57
  t70 := Tryz.underlying56
  a70 := Tryz.isAgg56
  z70 := Tryz.sizeOf56
  v70 := Tryz.zeroValue56
  t72 := Tryz.underlying59
  a72 := Tryz.isAgg59
  z72 := Tryz.sizeOf59
  v72 := Tryz.zeroValue59
  t75 := Tryz.underlying63
  a75 := Tryz.isAgg63
  z75 := Tryz.sizeOf63
  v75 := Tryz.zeroValue63
  t76 := Tryz.underlying64
  a76 := Tryz.isAgg64
  z76 := Tryz.sizeOf64
  v76 := Tryz.zeroValue64
  t127 := Tryz.underlying89
  a127 := Tryz.isAgg89
  z127 := Tryz.sizeOf89
  v127 := Tryz.zeroValue89
  t164 := Tryz.underlying94
  a164 := Tryz.isAgg94
  z164 := Tryz.sizeOf94
  v164 := Tryz.zeroValue94 }
theorem shJoinX : Builder.Extra Tryz.prog shJoin_ren := {
  sizeBuilder := by kernel_rfl
  liesBuilder := by kernel_rfl
  t5 := Tryz.underlying5
  a5 := Tryz.isAgg5
  z5 := Tryz.sizeOf5
  v5 := Tryz.zeroValue5
  infoByte := by kernel_rfl
  cellsByte := by kernel_rfl
  sizeByte := by kernel_rfl
  neB5 := by decide }
def shFmt_ren : Go.Shelf.Ren := ⟨fun | 173 => 37 | 246 => 56 | 283 => 70 | 284 => 71 | 285 => 72 | 286 => 73 | 129 => 87 | 317 => 86 | 318 => 88 | 319 => 89 | 320 => 90 | 337 => 104 | 338 => 105 | n => n, fun | 2 => 2 | 3 => 3 | 9 => 9 | 4 => 4 | 171 => 105 | 0 => 0 | 53 => 106 | 37 => 57 | 5 => 5 | 173 => 109 | 212 => 124 | 51 => 125 | 20 => 20 | 213 => 126 | 46 => 127 | 232 => 150 | 233 => 151 | n => n, fun | 17 => 0 | 18 => 4 | 19 => 5 | n => n⟩
theorem shFmt : Go.Proofs.LaysM.n173 Tryz.prog shFmt_ren := {
  mixed := by kernel_rfl
  f129 := Tryz.func87.trans (congrArg some (by kernel_rfl))
  f173 := Tryz.func37.trans (congrArg some (by kernel_rfl))
  f246 := Tryz.func56.trans (congrArg some (by kernel_rfl))
  f283 := Tryz.func70.trans (congrArg some (by kernel_rfl))
  f284 := Tryz.func71.trans (congrArg some (by kernel_rfl))
  f285 := Tryz.func72.trans (congrArg some (by kernel_rfl))
  f286 := Tryz.func73.trans (congrArg some (by kernel_rfl))
  f317 := Tryz.func86.trans (congrArg some (by kernel_rfl))
  f318 := Tryz.func88.trans (congrArg some (by kernel_rfl))
  f319 := Tryz.func89.trans (congrArg some (by kernel_rfl))
  f320 := Tryz.func90.trans (congrArg some (by kernel_rfl))
  f337 := Tryz.func104.trans (congrArg some (by kernel_rfl))
  f338 := Tryz.func105.trans (congrArg some (by kernel_rfl))
  t0 := Tryz.underlying0
  a0 := Tryz.isAgg0
  z0 := Tryz.sizeOf0
  v0 := Tryz.zeroValue0
  t2 := Tryz.underlying2
  a2 := Tryz.isAgg2
  z2 := Tryz.sizeOf2
  v2 := Tryz.zeroValue2
  t3 := Tryz.underlying3
  a3 := Tryz.isAgg3
  z3 := Tryz.sizeOf3
  v3 := Tryz.zeroValue3
  t4 := Tryz.underlying4
  a4 := Tryz.isAgg4
  z4 := Tryz.sizeOf4
  v4 := Tryz.zeroValue4
  t5 := Tryz.underlying5
  a5 := Tryz.isAgg5
  z5 := Tryz.sizeOf5
  v5 := Tryz.zeroValue5
  t9 := Tryz.underlying9
  a9 := Tryz.isAgg9
  z9 := Tryz.sizeOf9
  v9 := Tryz.zeroValue9
  t20 := Tryz.underlying20
  a20 := Tryz.isAgg20
  z20 := Tryz.sizeOf20
  v20 := Tryz.zeroValue20
  t37 := Tryz.underlying57
  a37 := Tryz.isAgg57
  z37 := Tryz.sizeOf57
  v37 := Tryz.zeroValue57
  t46 := Tryz.underlying127
  a46 := Tryz.isAgg127
  z46 := Tryz.sizeOf127
  v46 := Tryz.zeroValue127
  t51 := Tryz.underlying125
  a51 := Tryz.isAgg125
  z51 := Tryz.sizeOf125
  v51 := Tryz.zeroValue125
  t53 := Tryz.underlying106
  a53 := Tryz.isAgg106
  z53 := Tryz.sizeOf106
  v53 := Tryz.zeroValue106
  t171 := Tryz.underlying105
  a171 := Tryz.isAgg105
  z171 := Tryz.sizeOf105
  v171 := Tryz.zeroValue105
  t173 := Tryz.underlying109
  a173 := Tryz.isAgg109
  z173 := Tryz.sizeOf109
  v173 := Tryz.zeroValue109
  t212 := Tryz.underlying124
  a212 := Tryz.isAgg124
  z212 := Tryz.sizeOf124
  v212 := Tryz.zeroValue124
  t213 := Tryz.underlying126
  a213 := Tryz.isAgg126
  z213 := Tryz.sizeOf126
  t232 := Tryz.underlying150
  a232 := Tryz.isAgg150
  z232 := Tryz.sizeOf150
  v232 := Tryz.zeroValue150
  t233 := Tryz.underlying151
  a233 := Tryz.isAgg151
  z233 := Tryz.sizeOf151
  v233 := Tryz.zeroValue151
  g17 := by kernel_rfl
  g18 := by kernel_rfl
  g19 := by kernel_rfl
  i0 := by kernel_rfl
  i2 := by kernel_rfl
  i3 := by kernel_rfl
  i4 := by kernel_rfl
  i5 := by kernel_rfl
  i9 := by kernel_rfl
  i20 := by kernel_rfl
  i37 := by kernel_rfl
  i46 := by kernel_rfl
  i51 := by kernel_rfl
  i53 := by kernel_rfl
  i171 := by kernel_rfl
  i173 := by kernel_rfl
  i212 := by kernel_rfl
  i232 := by kernel_rfl
  i233 := by kernel_rfl
  m17 := by kernel_rfl
  m18 := by kernel_rfl
  m19 := by kernel_rfl }
end Go.Proofs.YtbakbednenfofaaGreatDoor

namespace Go.Abs
open Go Go.RowKit
set_option linter.unusedVariables false
theorem ints_of_rels {E : Env} {k : IntKind} : ∀ {zs : List Int} {l : List Value}, VRels E (zs.map (AV.int k)) l → l = zs.map fun z => Value.int k z
  | [], l, h => by cases h; rfl
  | z :: zs, l, h => by
    rw [List.map_cons] at h
    cases h with | cons ha ht =>
    cases ha
    rw [ints_of_rels ht, List.map_cons]
theorem tab_is {P : Program} {E : Env} {H : AHeap} {w : World} {G : Nat → Option AV} {g : Nat} {name : String} {k : IntKind} {zs : List Int} (hg : P.globalNamed name = some g) (ha : G g = some (.vptr (zs.map (AV.int k)))) (hR : Rel E H w) (hG : GRel E G) : Lib.TabIs P w name k zs := by
  obtain ⟨c, e, f, h1, h2⟩ := (hG g _ ha).2 _ rfl
  have h3 := hR.K g _ h1
  have h4 := ints_of_rels h2
  unfold Lib.TabIs World.var?
  rw [hg]
  simp only [Option.bind_some, h3]
  rw [← h4]
theorem itoa_dec (n : Nat) : Lib.itoa (n : Int) = Syn.dec n := by
  unfold Lib.itoa
  rw [if_neg (by omega)]
  simp only [Int.toNat_natCast]
  induction n using Syn.dec.induct with
  | case1 n h => rw [Syn.dec, if_pos h, Lib.decDigits, dif_pos h]
  | case2 n h ih => rw [Syn.dec, if_neg h, Lib.decDigits, dif_neg h, ih]
theorem fmt_does {P : Program} {G : Nat → Option AV} {f : FuncId} {name : String} {g : Nat} (he : Enters P f)
    (hf : ∀ (n : Int) (h0 : -9223372036854775808 ≤ n) (h1 : n ≤ 9223372036854775807) (w : World), Lib.TabIs P w name .u64 Lib.pow10Tab → Calls P f #[.int .i64 n, .int .i64 10] w fun e w' => e = .returned (.string ⟨(Lib.itoa n).toArray⟩) ∧ ∃ k os, w' = Go.Sort.grow (w.drewN k) os)
    (hg : P.globalNamed name = some g) (hG : G g = some (.vptr (Lib.pow10Tab.map (AV.int .u64)))) (n : Nat) (hn : n < 9223372036854775808) (H : AHeap) : Does P G f [.int .i64 n, .int .i64 10] H fun r h => r = .str (Syn.dec n) ∧ h = H := by
  refine ⟨fun E w vs hR hGR hv => ?_⟩
  cases hv with | cons ha hv =>
  cases hv with | cons hb hv =>
  cases hv
  cases ha
  cases hb
  refine .inl ⟨he _ _, (hf n (by omega) (by omega) w (tab_is hg hG hR hGR)).mono ?_⟩
  rintro e w' ⟨h1, k, os, rfl⟩
  rw [itoa_dec] at h1
  exact ⟨_, h1, .str _, H, E, ⟨rfl, rfl⟩, Ext.refl E, .str _, hR.below (Lib.below_grow _ w (Nat.le_refl _) k os)⟩
theorem map_data (ts : List (List UInt8)) : (ts.map fun t : List UInt8 => (⟨t.toArray⟩ : ByteArray)).map (·.data.toList) = ts := by
  rw [List.map_map]
  conv => rhs; rw [← List.map_id ts]
  exact List.map_congr_left fun t _ => by simp
theorem join_does {P : Program} {G : Nat → Option AV} {f : FuncId} (he : Enters P f)
    (hf : ∀ (bk o c : Nat) (xs : List ByteArray) (sep : ByteArray) (w : World), (∀ (j : Nat) x, xs[j]? = some x → w.cell? ⟨bk, o + j, none⟩ = some (.string x)) → bk < w.heap.size → xs.length ≤ 140737488355328 → xs.length ≤ c → (Lib.join (xs.map (·.data.toList)) sep.data.toList).length ≤ 140737488355328 →
      Calls P f #[.slice (some ⟨bk, o, none⟩) xs.length c, .string sep] w fun e w' => e = .returned (.string ⟨(Lib.join (xs.map (·.data.toList)) sep.data.toList).toArray⟩) ∧ Below w.heap.size w w')
    {ts : List (List UInt8)} {s : List UInt8} {i cap : Nat} {opn : Bool} {H : AHeap} {R : List AV} (hi : H.get i = some (.cells (ts.map AV.str ++ R))) (hN : ts.length ≤ 140737488355328) (hlen : (Lib.join ts s).length ≤ 140737488355328) :
    Does P G f [.sl i 0 1 ts.length cap opn, .str s] H fun r h => r = .str (Lib.join ts s) ∧ h = H := by
  refine ⟨fun E w vs hR hGR hv => ?_⟩
  cases hv with | cons ha hv =>
  cases hv with | cons hb hv =>
  cases hv
  cases hb
  cases ha with | sl hp hl hc ho hn =>
  rename_i c' p
  have hx : ∀ (j : Nat) (x : ByteArray), (ts.map fun t : List UInt8 => (⟨t.toArray⟩ : ByteArray))[j]? = some x → w.cell? ⟨p.b, p.s + 0 + j, none⟩ = some (.string x) := fun j x hj => by
    rw [List.getElem?_map] at hj
    cases e : ts[j]? with
    | none => rw [e] at hj; simp at hj
    | some t =>
      rw [e] at hj
      simp only [Option.map_some, Option.some.injEq] at hj
      subst hj
      have hlt : j < ts.length := (List.getElem?_eq_some_iff.1 e).1
      obtain ⟨v, h1, h2⟩ := hR.cell hi hp (o := j) (a := .str t) (by rw [List.getElem?_append_left (by simpa using hlt), List.getElem?_map, e]; rfl)
      cases h2
      exact h1
  obtain ⟨c, e, fz, us, h1, _⟩ := hR.cellsOf hi hp
  have hbk : p.b < w.heap.size := (Array.getElem?_eq_some_iff.1 h1).1
  have hd : (⟨s.toArray⟩ : ByteArray).data.toList = s := by simp
  have := hf p.b (p.s + 0) c' (ts.map fun t : List UInt8 => (⟨t.toArray⟩ : ByteArray)) ⟨s.toArray⟩ w hx hbk (by simpa using hN) (by simp; omega) (by rw [map_data, hd]; exact hlen)
  rw [map_data, hd, List.length_map] at this
  refine .inl ⟨he _ _, this.mono ?_⟩
  rintro e w' ⟨h1, h2⟩
  exact ⟨_, h1, .str _, H, E, ⟨rfl, rfl⟩, Ext.refl E, .str _, hR.below h2⟩
theorem join_none {P : Program} {G : Nat → Option AV} {f : FuncId} (he : Enters P f)
    (hf : ∀ (a : Option Addr) (c : Nat) (sep : ByteArray) (w : World), Calls P f #[.slice a 0 c, .string sep] w fun e w' => e = .returned (.string ⟨#[]⟩) ∧ w' = w) {s : List UInt8} {H : AHeap} :
    Does P G f [.nilsl, .str s] H fun r h => r = .str [] ∧ h = H := by
  refine ⟨fun E w vs hR hGR hv => ?_⟩
  cases hv with | cons ha hv =>
  cases hv with | cons hb hv =>
  cases hv
  cases hb
  cases ha
  refine .inl ⟨he _ _, (hf none 0 ⟨s.toArray⟩ w).mono ?_⟩
  rintro e w' ⟨h1, rfl⟩
  exact ⟨_, h1, .str [], H, E, ⟨rfl, rfl⟩, Ext.refl E, .str [], hR⟩
end Go.Abs

namespace Go.Syn
open Go.Lex
set_option linter.unusedVariables false
theorem eqT_len {q : Eqn} (h : WfQ q) : (eqT q).length ≤ 64 + 64 * q.e.wt := by
  obtain ⟨h1, w, t, ht⟩ := h
  have := tr_len ht
  have := nm_len h1
  have h2 := tr_tx ht
  subst h2
  simp only [eqT, List.length_append, List.length_cons, List.length_nil]
  omega
theorem eqsT_len : ∀ {l : List Eqn}, (∀ q ∈ l, WfQ q) → (eqsT l).length ≤ 128 * eqsWt l
  | [], _ => by simp [eqsT]
  | q :: l, h => by
    have h1 := eqT_len (h q (by simp))
    have h2 := eqsT_len (l := l) fun x hx => h x (by simp [hx])
    have h3 : 1 ≤ q.e.wt := by cases q.e; simp [Ex.wt]
    simp only [eqsT, eqsWt, List.length_append]
    omega
theorem ndT_len {n : Nd} (h : WfN n) : (ndT n).length ≤ 400 * n.wt := by
  have h1 := head_tlen h
  have h2 := eqsT_len h.eqs
  have h3 : sTel.length = 3 := rfl
  simp only [ndT, List.length_append, List.length_cons, List.length_nil, Nd.wt]
  omega
theorem showT_len : ∀ {l : List Nd}, (∀ q ∈ l, WfN q) → (showT l).length ≤ 400 * ndsWt l
  | [], _ => by simp [showT]
  | q :: l, h => by
    have h1 := ndT_len (h q (by simp))
    have h2 := showT_len (l := l) fun x hx => h x (by simp [hx])
    simp only [showT, ndsWt, List.length_append]
    omega
theorem eqsT_take {l : List Eqn} {i : Nat} {q : Eqn} (h : l[i]? = some q) : eqsT (l.take (i + 1)) = eqsT (l.take i) ++ eqT q := by
  rw [List.take_add_one, h, eqsT_append]
  simp [eqsT]
theorem showT_take {l : List Nd} {i : Nat} {q : Nd} (h : l[i]? = some q) : showT (l.take (i + 1)) = showT (l.take i) ++ ndT q := by
  rw [List.take_add_one, h, showT_append]
  simp [showT]
theorem eqsT_le (i : Nat) : ∀ (l : List Eqn), (eqsT (l.take i)).length ≤ (eqsT l).length := fun l => by
  have := eqsT_append (l.take i) (l.drop i)
  rw [List.take_append_drop] at this
  rw [this, List.length_append]
  omega
theorem showT_le (i : Nat) : ∀ (l : List Nd), (showT (l.take i)).length ≤ (showT l).length := fun l => by
  have := showT_append (l.take i) (l.drop i)
  rw [List.take_append_drop] at this
  rw [this, List.length_append]
  omega
end Go.Syn

namespace Go.Syn
open Go.Lex
set_option linter.unusedVariables false
set_option linter.unusedSimpArgs false
abbrev DE := List Wd → Option (Ex × List Wd)
def dL (r : DE) : Nat → List Wd → Option (List Ex × List Wd)
  | 0, _ => none
  | _ + 1, [] => none
  | k + 1, w :: L => if w = rp then some ([], L) else (r L).bind fun p => (dL r k p.2).map fun q => (p.1 :: q.1, q.2)
def dB (r : DE) (o : Wd) (L : List Wd) : Option (Ex × List Wd) :=
  if o = kw sNot then (r L).map fun p => (.mk sNot [] 0 0 [p.1], p.2.tail) else
  if o = kw sPre then (r L).map fun p => (.mk sPre [] 0 0 [p.1], p.2.tail) else
  if o = sg [45] then (r L).map fun p => (.mk sNeg [] 0 0 [p.1], p.2.tail) else
  if o = kw sIf then (r L).bind fun p => (r p.2.tail).bind fun q => (r q.2.tail).map fun s => (.mk sIf [] 0 0 [p.1, q.1, s.1], s.2.tail) else
  if o = kw sMerge then (r L.tail).bind fun p => (r p.2).map fun q => (.mk sMerge (L.headD rp).text 0 0 [p.1, q.1], q.2.tail) else
  (r (o :: L)).bind fun p =>
    if p.2.headD lp = rp then some (p.1, p.2.tail) else
    if p.2.headD lp = kw sWhen then
      (if p.2.tail.headD lp = kw sNot then some (.mk sWhen (p.2.tail.tail.headD lp).text 0 0 [p.1], p.2.tail.tail.tail.tail)
       else some (.mk sWhen (p.2.tail.headD lp).text 1 0 [p.1], p.2.tail.tail.tail)) else
    (r p.2.tail).map fun q => (.mk (p.2.headD lp).text [] 0 0 [p.1, q.1], q.2.tail)
def dF (r : DE) (k : Nat) : DE
  | [] => none
  | w :: L =>
    if w.kind = 3 then some (.mk sInt [] w.n 0 [], L) else
    if w = kw sTrue then some (.mk sBool [] 1 0 [], L) else
    if w = kw sFalse then some (.mk sBool [] 0 0 [], L) else
    if w.kind = 1 then
      (if L.headD rp = lp then
        (if L.tail.headD lp = rp then some (.mk sCall w.text 0 0 [], L.tail.tail)
         else (r L.tail).bind fun p => (dL r k p.2).map fun q => (.mk sCall w.text 0 0 (p.1 :: q.1), q.2))
       else some (.mk sVar w.text 0 0 [], L)) else
    dB r (L.headD rp) L.tail
def dE : Nat → DE
  | 0 => fun _ => none
  | f + 1 => dF (dE f) f
def NL (x : List Wd) : Prop := x.headD rp ≠ lp
theorem NL.cons {w : Wd} {x : List Wd} (h : w ≠ lp) : NL (w :: x) := h
theorem tr_first : ∀ {e : Ex} {w : List Wd} {t : Bs}, Tr e w t → ∃ h q, w = h :: q ∧ (h.kind = 3 ∨ h.kind = 1 ∨ h = kw sTrue ∨ h = kw sFalse ∨ h = lp)
  | _, _, _, .int h => ⟨_, _, rfl, .inl rfl⟩
  | _, _, _, .tt => ⟨_, _, rfl, .inr (.inr (.inl rfl))⟩
  | _, _, _, .ff => ⟨_, _, rfl, .inr (.inr (.inr (.inl rfl)))⟩
  | _, _, _, .var h => ⟨_, _, rfl, .inr (.inl rfl)⟩
  | _, _, _, .call0 h => ⟨_, _, rfl, .inr (.inl rfl)⟩
  | _, _, _, .call h he hl => ⟨_, _, rfl, .inr (.inl rfl)⟩
  | _, _, _, .un ho hk => ⟨_, _, rfl, .inr (.inr (.inr (.inr rfl)))⟩
  | _, _, _, .whn h hk => ⟨_, _, rfl, .inr (.inr (.inr (.inr rfl)))⟩
  | _, _, _, .whnot h hk => ⟨_, _, rfl, .inr (.inr (.inr (.inr rfl)))⟩
  | _, _, _, .ite ha hb hc => ⟨_, _, rfl, .inr (.inr (.inr (.inr rfl)))⟩
  | _, _, _, .merge h ha hb => ⟨_, _, rfl, .inr (.inr (.inr (.inr rfl)))⟩
  | _, _, _, .bin ho ha hb => ⟨_, _, rfl, .inr (.inr (.inr (.inr rfl)))⟩
theorem first_ne {h : Wd} (hh : h.kind = 3 ∨ h.kind = 1 ∨ h = kw sTrue ∨ h = kw sFalse ∨ h = lp) : h ≠ kw sNot ∧ h ≠ kw sPre ∧ h ≠ sg [45] ∧ h ≠ kw sIf ∧ h ≠ kw sMerge ∧ h ≠ rp := by
  rcases hh with hh | hh | rfl | rfl | rfl
  · refine ⟨?_, ?_, ?_, ?_, ?_, ?_⟩ <;> (rintro rfl; simp [kw, sg, rp] at hh)
  · refine ⟨?_, ?_, ?_, ?_, ?_, ?_⟩ <;> (rintro rfl; simp [kw, sg, rp] at hh)
  all_goals decide
theorem dF_open {r : DE} {k : Nat} {o : Wd} {L : List Wd} : dF r k (lp :: o :: L) = dB r o L := by
  simp [dF, lp, kw]
theorem dB_rest {r : DE} {e : Ex} {w : List Wd} {t : Bs} (h : Tr e w t) {x : List Wd} : ∃ o L, w ++ x = o :: L ∧ dB r o L = (r (w ++ x)).bind fun p =>
    if p.2.headD lp = rp then some (p.1, p.2.tail) else
    if p.2.headD lp = kw sWhen then
      (if p.2.tail.headD lp = kw sNot then some (.mk sWhen (p.2.tail.tail.headD lp).text 0 0 [p.1], p.2.tail.tail.tail.tail)
       else some (.mk sWhen (p.2.tail.headD lp).text 1 0 [p.1], p.2.tail.tail.tail)) else
    (r p.2.tail).map fun q => (.mk (p.2.headD lp).text [] 0 0 [p.1, q.1], q.2.tail) := by
  obtain ⟨o, q, rfl, hh⟩ := tr_first h
  obtain ⟨h1, h2, h3, h4, h5, h6⟩ := first_ne hh
  refine ⟨o, q ++ x, rfl, ?_⟩
  rw [dB, if_neg h1, if_neg h2, if_neg h3, if_neg h4, if_neg h5]
  rfl
theorem ops_ne {o : Wd} (h : o ∈ opsW) : o ≠ rp ∧ o ≠ kw sWhen ∧ o ≠ lp := (by decide +kernel : ∀ o ∈ opsW, o ≠ rp ∧ o ≠ kw sWhen ∧ o ≠ lp) o h
theorem nmW_ne (nm : Bs) : nmW nm ≠ rp ∧ nmW nm ≠ kw sNot ∧ nmW nm ≠ kw sTrue ∧ nmW nm ≠ kw sFalse := by
  refine ⟨?_, ?_, ?_, ?_⟩ <;> (intro h; have := congrArg Wd.kind h; simp [nmW, rp, kw] at this)
mutual
theorem tr_d : ∀ {e : Ex} {w : List Wd} {t : Bs}, Tr e w t → ∀ (f : Nat) (x : List Wd), w.length ≤ f → (e.op = sVar → NL x) → dE f (w ++ x) = some (e.er, x)
  | _, _, _, .int h, f, x, hf, hx => by
    obtain ⟨f, rfl⟩ : ∃ g, f = g + 1 := ⟨f - 1, by simp at hf; omega⟩
    simp [dE, dF, Ex.er, Ex.ers]
  | _, _, _, .tt, f, x, hf, hx => by
    obtain ⟨f, rfl⟩ : ∃ g, f = g + 1 := ⟨f - 1, by simp at hf; omega⟩
    simp [dE, dF, Ex.er, Ex.ers, kw]
  | _, _, _, .ff, f, x, hf, hx => by
    obtain ⟨f, rfl⟩ : ∃ g, f = g + 1 := ⟨f - 1, by simp at hf; omega⟩
    simp [dE, dF, Ex.er, Ex.ers, kw, sTrue, sFalse]
  | _, _, _, @Tr.var nm pos h, f, x, hf, hx => by
    obtain ⟨f, rfl⟩ : ∃ g, f = g + 1 := ⟨f - 1, by simp at hf; omega⟩
    obtain ⟨n1, n2, n3, n4⟩ := nmW_ne nm
    have hx' : x.headD rp ≠ lp := hx rfl
    show dF (dE f) f (nmW nm :: x) = _
    rw [dF, if_neg (by simp [nmW]), if_neg n3, if_neg n4, if_pos (show (nmW nm).kind = 1 from rfl), if_neg hx']
    simp [nmW, Ex.er, Ex.ers]
  | _, _, _, @Tr.call0 nm pos h, f, x, hf, hx => by
    obtain ⟨f, rfl⟩ : ∃ g, f = g + 1 := ⟨f - 1, by simp at hf; omega⟩
    obtain ⟨n1, n2, n3, n4⟩ := nmW_ne nm
    show dF (dE f) f (nmW nm :: lp :: rp :: x) = _
    rw [dF, if_neg (by simp [nmW]), if_neg n3, if_neg n4, if_pos (show (nmW nm).kind = 1 from rfl), if_pos (show (lp :: rp :: x).headD rp = lp from rfl), if_pos (show (lp :: rp :: x).tail.headD lp = rp from rfl)]
    simp [nmW, Ex.er, Ex.ers]
  | _, _, _, @Tr.call nm pos e l w ws t ts h he hl, f, x, hf, hx => by
    obtain ⟨f, rfl⟩ : ∃ g, f = g + 1 := ⟨f - 1, by simp at hf; omega⟩
    obtain ⟨n1, n2, n3, n4⟩ := nmW_ne nm
    simp only [List.length_cons, List.length_append, List.length_nil] at hf
    have ew : (nmW nm :: lp :: (w ++ (ws ++ [rp]))) ++ x = nmW nm :: lp :: (w ++ (ws ++ (rp :: x))) := by simp
    rw [ew]
    obtain ⟨o, q, hq, hh⟩ := tr_first he
    have hr : (w ++ (ws ++ (rp :: x))).headD lp ≠ rp := by rw [hq]; exact (first_ne hh).2.2.2.2.2
    have hn : NL (ws ++ (rp :: x)) := by
      cases hl with
      | nil => exact NL.cons (by decide)
      | cons _ _ => exact NL.cons (by decide)
    have h1 := tr_d he f (ws ++ (rp :: x)) (by omega) fun _ => hn
    have h2 := trs_d hl f f x (by omega) (by omega)
    show dF (dE f) f (nmW nm :: lp :: (w ++ (ws ++ (rp :: x)))) = _
    rw [dF, if_neg (by simp [nmW]), if_neg n3, if_neg n4, if_pos (show (nmW nm).kind = 1 from rfl), if_pos (show (lp :: (w ++ (ws ++ (rp :: x)))).headD rp = lp from rfl), if_neg (show (lp :: (w ++ (ws ++ (rp :: x)))).tail.headD lp ≠ rp from hr)]
    simp only [List.tail_cons]
    rw [h1]
    simp only [Option.bind_some]
    rw [h2]
    simp [nmW, Ex.er, Ex.ers]
  | _, _, _, @Tr.un op o pos k w t ho hk, f, x, hf, hx => by
    obtain ⟨f, rfl⟩ : ∃ g, f = g + 1 := ⟨f - 1, by simp at hf; omega⟩
    simp only [List.length_cons, List.length_append, List.length_nil] at hf
    have ew : (lp :: o :: (w ++ [rp])) ++ x = lp :: o :: (w ++ (rp :: x)) := by simp
    have h1 := tr_d hk f (rp :: x) (by omega) fun _ => NL.cons (by decide)
    rw [ew]
    show dF (dE f) f _ = _
    rw [dF_open]
    simp only [unsW, List.mem_cons, Prod.mk.injEq, List.not_mem_nil, or_false] at ho
    rcases ho with ⟨rfl, rfl⟩ | ⟨rfl, rfl⟩ | ⟨rfl, rfl⟩
    · rw [dB, if_pos rfl, h1]; simp [Ex.er, Ex.ers]
    · rw [dB, if_neg (by decide), if_pos rfl, h1]; simp [Ex.er, Ex.ers]
    · rw [dB, if_neg (by decide), if_neg (by decide), if_pos rfl, h1]; simp [Ex.er, Ex.ers]
  | _, _, _, @Tr.whn nm pos k w t h hk, f, x, hf, hx => by
    obtain ⟨f, rfl⟩ : ∃ g, f = g + 1 := ⟨f - 1, by simp at hf; omega⟩
    simp only [List.length_cons, List.length_append, List.length_nil] at hf
    have ew : (lp :: (w ++ [kw sWhen, nmW nm, rp])) ++ x = lp :: (w ++ (kw sWhen :: nmW nm :: rp :: x)) := by simp
    have h1 := tr_d hk f (kw sWhen :: nmW nm :: rp :: x) (by omega) fun _ => NL.cons (by decide)
    obtain ⟨o, L, e1, e2⟩ := dB_rest (r := dE f) hk (x := kw sWhen :: nmW nm :: rp :: x)
    rw [ew, e1]
    show dF (dE f) f _ = _
    rw [dF_open, e2, h1]
    simp only [Option.bind_some, List.headD_cons, List.tail_cons]
    rw [if_neg (by decide), if_pos trivial]
    have ht : (nmW nm).text = nm := rfl
    simp [(nmW_ne nm).2.1, Ex.er, Ex.ers, ht]
  | _, _, _, @Tr.whnot nm pos k w t h hk, f, x, hf, hx => by
    obtain ⟨f, rfl⟩ : ∃ g, f = g + 1 := ⟨f - 1, by simp at hf; omega⟩
    simp only [List.length_cons, List.length_append, List.length_nil] at hf
    have ew : (lp :: (w ++ [kw sWhen, kw sNot, nmW nm, rp])) ++ x = lp :: (w ++ (kw sWhen :: kw sNot :: nmW nm :: rp :: x)) := by simp
    have h1 := tr_d hk f (kw sWhen :: kw sNot :: nmW nm :: rp :: x) (by omega) fun _ => NL.cons (by decide)
    obtain ⟨o, L, e1, e2⟩ := dB_rest (r := dE f) hk (x := kw sWhen :: kw sNot :: nmW nm :: rp :: x)
    rw [ew, e1]
    show dF (dE f) f _ = _
    rw [dF_open, e2, h1]
    simp only [Option.bind_some, List.headD_cons, List.tail_cons]
    rw [if_neg (by decide), if_pos trivial, if_pos trivial]
    simp [nmW, Ex.er, Ex.ers]
  | _, _, _, @Tr.ite pos a b c u v w ta tb tc ha hb hc, f, x, hf, hx => by
    obtain ⟨f, rfl⟩ : ∃ g, f = g + 1 := ⟨f - 1, by simp at hf; omega⟩
    simp only [List.length_cons, List.length_append, List.length_nil] at hf
    have ew : (lp :: kw sIf :: (u ++ (kw sThen :: (v ++ (kw sElse :: (w ++ [rp])))))) ++ x = lp :: kw sIf :: (u ++ (kw sThen :: (v ++ (kw sElse :: (w ++ (rp :: x)))))) := by simp
    have h1 := tr_d ha f (kw sThen :: (v ++ (kw sElse :: (w ++ (rp :: x))))) (by omega) fun _ => NL.cons (by decide)
    have h2 := tr_d hb f (kw sElse :: (w ++ (rp :: x))) (by omega) fun _ => NL.cons (by decide)
    have h3 := tr_d hc f (rp :: x) (by omega) fun _ => NL.cons (by decide)
    rw [ew]
    show dF (dE f) f _ = _
    rw [dF_open, dB, if_neg (by decide), if_neg (by decide), if_neg (by decide), if_pos rfl, h1]
    simp only [Option.bind_some, List.tail_cons]
    rw [h2]
    simp only [Option.bind_some, List.tail_cons]
    rw [h3]
    simp [Ex.er, Ex.ers]
  | _, _, _, @Tr.merge nm pos a b u v ta tb h ha hb, f, x, hf, hx => by
    obtain ⟨f, rfl⟩ : ∃ g, f = g + 1 := ⟨f - 1, by simp at hf; omega⟩
    simp only [List.length_cons, List.length_append, List.length_nil] at hf
    have ew : (lp :: kw sMerge :: nmW nm :: (u ++ (v ++ [rp]))) ++ x = lp :: kw sMerge :: nmW nm :: (u ++ (v ++ (rp :: x))) := by simp
    have h1 := trp_d ha f (v ++ (rp :: x)) (by omega)
    have h2 := trp_d hb f (rp :: x) (by omega)
    rw [ew]
    show dF (dE f) f _ = _
    rw [dF_open, dB, if_neg (by decide), if_neg (by decide), if_neg (by decide), if_neg (by decide), if_pos rfl]
    simp only [List.tail_cons]
    rw [h1]
    simp only [Option.bind_some]
    rw [h2]
    simp [nmW, Ex.er, Ex.ers]
  | _, _, _, @Tr.bin o pos a b u v ta tb ho ha hb, f, x, hf, hx => by
    obtain ⟨f, rfl⟩ : ∃ g, f = g + 1 := ⟨f - 1, by simp at hf; omega⟩
    obtain ⟨o1, o2, o3⟩ := ops_ne ho
    simp only [List.length_cons, List.length_append, List.length_nil] at hf
    have ew : (lp :: (u ++ (o :: (v ++ [rp])))) ++ x = lp :: (u ++ (o :: (v ++ (rp :: x)))) := by simp
    have h1 := tr_d ha f (o :: (v ++ (rp :: x))) (by omega) fun _ => NL.cons o3
    have h2 := tr_d hb f (rp :: x) (by omega) fun _ => NL.cons (by decide)
    obtain ⟨c, L, e1, e2⟩ := dB_rest (r := dE f) ha (x := o :: (v ++ (rp :: x)))
    rw [ew, e1]
    show dF (dE f) f _ = _
    rw [dF_open, e2, h1]
    simp only [Option.bind_some, List.headD_cons, List.tail_cons]
    simp [o1, o2, h2, Ex.er, Ex.ers]
theorem trs_d : ∀ {l : List Ex} {w : List Wd} {t : Bs}, Trs l w t → ∀ (f k : Nat) (x : List Wd), w.length ≤ f → w.length < k → dL (dE f) k (w ++ (rp :: x)) = some (Ex.ers l, x)
  | _, _, _, .nil, f, k, x, hf, hk => by
    obtain ⟨k, rfl⟩ : ∃ g, k = g + 1 := ⟨k - 1, by simp at hk; omega⟩
    simp [dL, Ex.ers]
  | _, _, _, @Trs.cons e l w ws t ts he hl, f, k, x, hf, hk => by
    obtain ⟨k, rfl⟩ : ∃ g, k = g + 1 := ⟨k - 1, by simp at hk; omega⟩
    simp only [List.length_cons, List.length_append, List.length_nil] at hf hk
    have ew : (cm :: (w ++ ws)) ++ (rp :: x) = cm :: (w ++ (ws ++ (rp :: x))) := by simp
    have hn : NL (ws ++ (rp :: x)) := by
      cases hl with
      | nil => exact NL.cons (by decide)
      | cons _ _ => exact NL.cons (by decide)
    have h1 := tr_d he f (ws ++ (rp :: x)) (by omega) fun _ => hn
    have h2 := trs_d hl f k x (by omega) (by omega)
    rw [ew, dL, if_neg (by decide), h1]
    simp only [Option.bind_some]
    rw [h2]
    simp [Ex.ers]
theorem trp_d : ∀ {e : Ex} {w : List Wd} {t : Bs}, Trp e w t → ∀ (f : Nat) (x : List Wd), w.length ≤ f → dE f (w ++ x) = some (e.er, x)
  | _, _, _, @Trp.var nm pos h, f, x, hf => by
    obtain ⟨f, rfl⟩ : ∃ g, f = g + 1 := ⟨f - 1, by simp at hf; omega⟩
    obtain ⟨f, rfl⟩ : ∃ g, f = g + 1 := ⟨f - 1, by simp at hf; omega⟩
    have h0 : Tr (.mk sVar nm 0 pos []) [nmW nm] nm := .var h
    have h1 : dE (f + 1) ([nmW nm] ++ (rp :: x)) = some (Ex.er (.mk sVar nm 0 pos []), rp :: x) := by
      obtain ⟨n1, n2, n3, n4⟩ := nmW_ne nm
      show dF (dE f) f (nmW nm :: rp :: x) = _
      rw [dF, if_neg (by simp [nmW]), if_neg n3, if_neg n4, if_pos (show (nmW nm).kind = 1 from rfl), if_neg (show (rp :: x).headD rp ≠ lp from (by decide : rp ≠ lp))]
      simp [nmW, Ex.er, Ex.ers]
    obtain ⟨o, L, e1, e2⟩ := dB_rest (r := dE (f + 1)) h0 (x := rp :: x)
    show dF (dE (f + 1)) (f + 1) (lp :: ([nmW nm] ++ (rp :: x))) = _
    rw [e1, dF_open, e2, h1]
    simp
  | _, _, _, @Trp.of op nm n pos ks w t hn h, f, x, hf => tr_d h f x hf fun e => absurd e hn
end
end Go.Syn

namespace Go.Syn
open Go.Lex
set_option linter.unusedVariables false
set_option linter.unusedSimpArgs false
def dV (L : List Wd) : Va × List Wd :=
  let k := if L.tail.tail.headD lp = kw sBool then 1 else 2
  let r := L.tail.tail.tail
  if r.headD lp = kw sWhen then
    (if r.tail.headD lp = kw sNot then (⟨(L.headD lp).text, k, (r.tail.tail.headD lp).text, true, 0⟩, r.tail.tail.tail)
     else (⟨(L.headD lp).text, k, (r.tail.headD lp).text, false, 0⟩, r.tail.tail))
  else (⟨(L.headD lp).text, k, [], false, 0⟩, r)
def dVs : Nat → List Wd → List Va × List Wd
  | 0, L => ([], L)
  | k + 1, L => if (L.headD lp).kind = 1 then
      ((dV L).1 :: (dVs k (if (dV L).2.headD lp = semi then (dV L).2.tail else (dV L).2)).1, (dVs k (if (dV L).2.headD lp = semi then (dV L).2.tail else (dV L).2)).2)
    else ([], L)
theorem vd_d {v : Va} {w : List Wd} (h : Vd v w) (x : List Wd) : ∃ nm k, v.er = ⟨nm, k, [], false, 0⟩ ∧ w ++ x = nmW nm :: colon :: (if k = 1 then kw sBool else kw sInt) :: x ∧ (k = 1 ∨ k = 2) := by
  cases h with
  | bool h => exact ⟨_, 1, rfl, rfl, .inl rfl⟩
  | int h => exact ⟨_, 2, rfl, rfl, .inr rfl⟩
theorem vl_d {v : Va} {w : List Wd} (h : Vl v w) {x : List Wd} (hx : x.headD lp ≠ kw sWhen) : dV (w ++ x) = (v.er, x) := by
  cases h with
  | no h =>
    obtain ⟨nm, k, h1, h2, h3⟩ := vd_d h x
    rw [h1, h2]
    have hb : kw sInt ≠ kw sBool := by decide
    have h6 : (nmW nm).text = nm := rfl
    have hx' : x.head?.getD lp ≠ kw sWhen := by simpa using hx
    rcases h3 with rfl | rfl <;> simp [dV, hx', hb, h6]
  | @on nm on k pos w h ho =>
    obtain ⟨nm', k', h1, h2, h3⟩ := vd_d h (kw sWhen :: nmW on :: x)
    simp only [Va.er, Va.mk.injEq] at h1
    obtain ⟨rfl, rfl, _⟩ := h1
    rw [List.append_assoc]
    show dV (w ++ (kw sWhen :: nmW on :: x)) = _
    rw [h2]
    have h4 := (nmW_ne on).2.1
    have h5 : (nmW on).text = on := rfl
    have hb : kw sInt ≠ kw sBool := by decide
    have h6 : (nmW nm).text = nm := rfl
    rcases h3 with rfl | rfl <;> simp [dV, h4, h5, h6, hb, Va.er]
  | @off nm on k pos w h ho =>
    obtain ⟨nm', k', h1, h2, h3⟩ := vd_d h (kw sWhen :: kw sNot :: nmW on :: x)
    simp only [Va.er, Va.mk.injEq] at h1
    obtain ⟨rfl, rfl, _⟩ := h1
    rw [List.append_assoc]
    show dV (w ++ (kw sWhen :: kw sNot :: nmW on :: x)) = _
    rw [h2]
    have h5 : (nmW on).text = on := rfl
    have hb : kw sInt ≠ kw sBool := by decide
    have h6 : (nmW nm).text = nm := rfl
    rcases h3 with rfl | rfl <;> simp [dV, h5, h6, hb, Va.er]
theorem vl_first {v : Va} {w : List Wd} (h : Vl v w) (x : List Wd) : ((w ++ x).headD lp).kind = 1 := by
  obtain ⟨nm, xs, rfl⟩ := vl_head h
  rfl
theorem vs_d : ∀ {l : List Va} {w : List Wd}, Vs Vd l w → ∀ (k : Nat) (x : List Wd), l.length ≤ k → dVs k (w ++ (rp :: x)) = (l.map Va.er, rp :: x)
  | _, _, @Vs.one _ v w h, k, x, hk => by
    obtain ⟨k, rfl⟩ : ∃ g, k = g + 1 := ⟨k - 1, by simp at hk; omega⟩
    rw [dVs, if_pos (vl_first (.no h) _), vl_d (.no h) (show (rp :: x).headD lp ≠ kw sWhen from (by decide : rp ≠ kw sWhen))]
    have e : dVs k (rp :: x) = ([], rp :: x) := by cases k <;> simp [dVs, rp]
    simp [e, show rp ≠ semi by decide]
  | _, _, @Vs.cons _ v l w ws h hl, k, x, hk => by
    obtain ⟨k, rfl⟩ : ∃ g, k = g + 1 := ⟨k - 1, by simp at hk; omega⟩
    simp only [List.length_cons] at hk
    have h1 := vs_d hl k x (by omega)
    have ew : (w ++ (semi :: ws)) ++ (rp :: x) = w ++ (semi :: (ws ++ (rp :: x))) := by simp
    rw [ew, dVs, if_pos (vl_first (.no h) _), vl_d (.no h) (show (semi :: (ws ++ (rp :: x))).headD lp ≠ kw sWhen from (by decide : semi ≠ kw sWhen))]
    simp [h1]
theorem vs0_d {l : List Va} {w : List Wd} (h : Vs0 l w) (k : Nat) (x : List Wd) (hk : l.length ≤ k) : dVs k (w ++ (rp :: x)) = (l.map Va.er, rp :: x) := by
  cases h with
  | nil => cases k <;> simp [dVs, rp]
  | of h => exact vs_d h k x hk
theorem vse_d : ∀ {l : List Va} {w : List Wd}, Vse l w → ∀ (k : Nat) (z : Wd) (x : List Wd), z.kind ≠ 1 → l.length ≤ k → dVs k (w ++ (z :: x)) = (l.map Va.er, z :: x)
  | _, _, .nil, k, z, x, hz, hk => by cases k <;> simp [dVs, hz]
  | _, _, @Vse.cons v l w ws h hl, k, z, x, hz, hk => by
    obtain ⟨k, rfl⟩ : ∃ g, k = g + 1 := ⟨k - 1, by simp at hk; omega⟩
    simp only [List.length_cons] at hk
    have h1 := vse_d hl k z x hz (by omega)
    have ew : (w ++ (semi :: ws)) ++ (z :: x) = w ++ (semi :: (ws ++ (z :: x))) := by simp
    rw [ew, dVs, if_pos (vl_first h _), vl_d h (show (semi :: (ws ++ (z :: x))).headD lp ≠ kw sWhen from (by decide : semi ≠ kw sWhen))]
    simp [h1]
def dQs (f : Nat) : Nat → List Wd → Option (List Eqn × List Wd)
  | 0, L => some ([], L)
  | k + 1, L => if (L.headD lp).kind = 1 then (dE f L.tail.tail).bind fun p => (dQs f k p.2.tail).map fun q => (⟨(L.headD lp).text, p.1, 0⟩ :: q.1, q.2) else some ([], L)
theorem ew_d {e : Ex} {w : List Wd} (h : Ew e w) (f : Nat) (x : List Wd) (hf : w.length ≤ f) (hx : NL x) : dE f (w ++ x) = some (e.er, x) := by
  rcases h with ⟨t, h⟩ | ⟨cw, t, h, rfl⟩
  · exact tr_d h f x hf fun _ => hx
  · obtain ⟨f, rfl⟩ : ∃ g, f = g + 1 := ⟨f - 1, by simp at hf; omega⟩
    simp only [List.length_cons, List.length_append, List.length_nil] at hf
    have h1 := tr_d h f (rp :: x) (by omega) fun _ => NL.cons (by decide)
    have ew : (lp :: (cw ++ [rp])) ++ x = lp :: (cw ++ (rp :: x)) := by simp
    obtain ⟨o, L, e1, e2⟩ := dB_rest (r := dE f) h (x := rp :: x)
    rw [ew, e1]
    show dF (dE f) f _ = _
    rw [dF_open, e2, h1]
    simp
theorem es_d : ∀ {l : List Eqn} {w : List Wd}, Es l w → ∀ (f k : Nat) (z : Wd) (x : List Wd), w.length ≤ f → l.length ≤ k → z.kind ≠ 1 → dQs f k (w ++ (z :: x)) = some (l.map Eqn.er, z :: x)
  | _, _, .nil, f, k, z, x, hf, hk, hz => by cases k <;> simp [dQs, hz]
  | _, _, @Es.cons nm e pos l w ws h he hl, f, k, z, x, hf, hk, hz => by
    obtain ⟨k, rfl⟩ : ∃ g, k = g + 1 := ⟨k - 1, by simp at hk; omega⟩
    simp only [List.length_cons, List.length_append] at hk hf
    have h1 := es_d hl f k z x (by omega) (by omega) hz
    have h2 := ew_d he f (semi :: (ws ++ (z :: x))) (by omega) (NL.cons (by decide))
    have ew : (nmW nm :: eqs_ :: (w ++ (semi :: ws))) ++ (z :: x) = nmW nm :: eqs_ :: (w ++ (semi :: (ws ++ (z :: x)))) := by simp
    rw [ew, dQs, if_pos (show ((nmW nm :: eqs_ :: (w ++ (semi :: (ws ++ (z :: x))))).headD lp).kind = 1 from rfl)]
    simp only [List.tail_cons]
    rw [h2]
    simp [h1, Eqn.er, nmW]
def dN (f : Nat) (L : List Wd) : Option (Nd × List Wd) :=
  let a := dVs f L.tail.tail.tail
  let b := dVs f a.2.tail.tail.tail
  let c := b.2.tail.tail
  let d := if c.headD lp = kw sVar then dVs f c.tail else ([], c)
  (dQs f f d.2.tail).map fun q => (⟨(L.tail.headD lp).text, a.1, b.1, d.1, q.1, 0⟩, if q.2.tail.headD lp = semi then q.2.tail.tail else q.2.tail)
theorem vs_len' : ∀ {l : List Va} {w : List Wd}, Vs Vd l w → l.length ≤ w.length
  | _, _, .one h => by cases h <;> simp
  | _, _, .cons h hl => by
    have := vs_len' hl
    simp only [List.length_cons, List.length_append]
    omega
theorem vs0_len' {l : List Va} {w : List Wd} (h : Vs0 l w) : l.length ≤ w.length := by
  cases h with
  | nil => exact Nat.le_refl _
  | of h => exact vs_len' h
theorem nd_d {n : Nd} {w : List Wd} (h : Nw n w) (f : Nat) (x : List Wd) (hf : w.length ≤ f) (hx : x.headD lp ≠ semi) : dN f (w ++ x) = some (n.er, x) := by
  obtain ⟨wi, wo, wl, we, b, hn, hi, ho, hl, he, rfl⟩ := h
  obtain ⟨nm, vi, vo, vl, vq, pos⟩ := n
  simp only at hn hi ho hl he
  simp only [List.length_cons, List.length_append] at hf
  have l1 := vs0_len' hi
  have l2 := vs0_len' ho
  have l4 := es_len he
  obtain ⟨y, hy⟩ : ∃ y, y = (if b = true then [semi] else []) ++ x := ⟨_, rfl⟩
  have hyx : (if y.headD lp = semi then y.tail else y) = x := by
    rw [hy]
    cases b with
    | true => rfl
    | false => exact if_neg hx
  have ew : (kw sNode :: nmW nm :: lp :: (wi ++ (rp :: kw sReturns :: lp :: (wo ++ (rp :: semi :: (wl ++ (kw sLet :: (we ++ (kw sTel :: (if b then [semi] else []))))))))) ) ++ x =
      kw sNode :: nmW nm :: lp :: (wi ++ (rp :: kw sReturns :: lp :: (wo ++ (rp :: semi :: (wl ++ (kw sLet :: (we ++ (kw sTel :: y)))))))) := by rw [hy]; simp
  rw [ew]
  have a1 := vs0_d hi f (kw sReturns :: lp :: (wo ++ (rp :: semi :: (wl ++ (kw sLet :: (we ++ (kw sTel :: y))))))) (by omega)
  have a2 := vs0_d ho f (semi :: (wl ++ (kw sLet :: (we ++ (kw sTel :: y))))) (by omega)
  have a4 := es_d he f f (kw sTel) y (by omega) (by omega) (by decide)
  have a3 : (if (wl ++ (kw sLet :: (we ++ (kw sTel :: y)))).headD lp = kw sVar then dVs f (wl ++ (kw sLet :: (we ++ (kw sTel :: y)))).tail else ([], wl ++ (kw sLet :: (we ++ (kw sTel :: y))))) = (vl.map Va.er, kw sLet :: (we ++ (kw sTel :: y))) := by
    rcases hl with ⟨rfl, rfl⟩ | ⟨_, u, hu, rfl⟩
    · exact if_neg (show ([] ++ (kw sLet :: (we ++ (kw sTel :: y)))).headD lp ≠ kw sVar from (by decide : kw sLet ≠ kw sVar))
    · have l3 := vse_len hu
      simp only [List.length_cons] at hf
      refine (if_pos rfl).trans ?_
      exact vse_d hu f (kw sLet) _ (by decide) (by omega)
  show (dQs f f _).map _ = _
  simp only [dN, List.tail_cons, a1, a2, a3, a4, Option.map_some, List.headD_cons]
  exact congrArg some (Prod.ext rfl hyx)
def dNs (f : Nat) : Nat → List Wd → Option (List Nd)
  | 0, L => some []
  | k + 1, [] => some []
  | k + 1, w :: L => (dN f (w :: L)).bind fun p => (dNs f k p.2).map fun q => p.1 :: q
theorem ns_d : ∀ {l : List Nd} {w : List Wd}, Ns l w → ∀ (f k : Nat), w.length ≤ f → l.length ≤ k → dNs f k w = some (l.map Nd.er)
  | _, _, .nil, f, k, hf, hk => by cases k <;> rfl
  | _, _, @Ns.cons n l w ws h hl, f, k, hf, hk => by
    obtain ⟨k, rfl⟩ : ∃ g, k = g + 1 := ⟨k - 1, by simp at hk; omega⟩
    simp only [List.length_cons, List.length_append] at hk hf
    have h1 := ns_d hl f k (by omega) (by omega)
    have hs : ws.headD lp ≠ semi := by
      cases hl with
      | nil => decide
      | cons g gl =>
        obtain ⟨wi, wo, wl, we, b, _, _, _, _, _, rfl⟩ := g
        exact (by decide : kw sNode ≠ semi)
    have h2 := nd_d h f ws (by omega) hs
    obtain ⟨z, zs, hz⟩ : ∃ z zs, w ++ ws = z :: zs := by
      obtain ⟨wi, wo, wl, we, b, _, _, _, _, _, rfl⟩ := h
      exact ⟨_, _, rfl⟩
    rw [hz, dNs, ← hz, h2]
    simp [h1]
theorem cuts_fun {n : Nat} {s : Bs} {L M : List Wd} (h : Cuts n s L) (g : Cuts n s M) : L = M := by
  obtain ⟨l, h1, h2⟩ := h
  obtain ⟨m, g1, g2⟩ := g
  rw [h1] at g1
  cases g1
  rw [← h2, ← g2]
theorem show_inj {l m : List Nd} (hl : ∀ d ∈ l, WfN d) (hm : ∀ d ∈ m, WfN d) (h : showT l = showT m) : l.map Nd.er = m.map Nd.er := by
  obtain ⟨w, n1, c1⟩ := show_cuts (n := 0) l hl
  obtain ⟨u, n2, c2⟩ := show_cuts (n := 0) m hm
  rw [h] at c1
  obtain rfl := cuts_fun c1 c2
  have e1 := ns_d n1 w.length (l.length + m.length) (Nat.le_refl _) (by omega)
  have e2 := ns_d n2 w.length (l.length + m.length) (Nat.le_refl _) (by omega)
  rw [e1] at e2
  exact Option.some.inj e2
end Go.Syn

namespace Go.Abs
open Go
attribute [simp] awanted ayield acallee aop aallocC alookup afind asame keyed atup amaplen amapput apure aval tput ofConst ofConst1 ofConsts abin aint2 ashift astr2 aeqIn aeqFields aun aconv aslice abounds abound afieldAddr afield aindexAddr aindex aextract alen acap amin amax abuild afill aplaces aagg apart' aread aat acut afirst alenOf abytes aalloc arep aeff aappend acopy aclear ares aresults aresult avals apairs aopt splice Region.isConst undefA isSeq
@[simp] theorem eff_same (H : AHeap) : H.eff .same = H := rfl
@[simp] theorem eff_put (H : AHeap) (i : Nat) (x : AObj) : H.eff (.put i x) = H.set i x := rfl
@[simp] theorem eff_new (H : AHeap) (x : AObj) : H.eff (.new x) = H.push x := rfl
@[simp] theorem eff_move (H : AHeap) (i : Nat) (x : AObj) : H.eff (.move i x) = (H.kill i).push x := rfl
@[simp] theorem scalar_bool (b : Bool) : (AV.bool b).scalar = true := rfl
@[simp] theorem scalar_int (k : IntKind) (n : Int) : (AV.int k n).scalar = true := rfl
@[simp] theorem scalar_str (s : List UInt8) : (AV.str s).scalar = true := rfl
@[simp] theorem scalar_nilptr : AV.nilptr.scalar = true := rfl
@[simp] theorem scalar_ptr (i o : Nat) : (AV.ptr i o).scalar = true := rfl
@[simp] theorem scalar_vptr (c : List AV) : (AV.vptr c).scalar = true := rfl
@[simp] theorem scalar_nilsl : AV.nilsl.scalar = true := rfl
@[simp] theorem scalar_sl (i o z l c : Nat) (b : Bool) : (AV.sl i o z l c b).scalar = true := rfl
@[simp] theorem scalar_vsl (c : List AV) (n : Nat) : (AV.vsl c n).scalar = true := rfl
@[simp] theorem scalar_nilmap : AV.nilmap.scalar = true := rfl
@[simp] theorem scalar_func (f : Fn) (a b : List AV) : (AV.func f a b).scalar = true := rfl
@[simp] theorem scalar_nilfunc : AV.nilfunc.scalar = true := rfl
@[simp] theorem scalar_iface (t : TypeId) (v : AV) : (AV.iface t v).scalar = true := rfl
@[simp] theorem scalar_niliface : AV.niliface.scalar = true := rfl
@[simp] theorem cells_agg (c : List AV) : (AV.agg c).cells = c := rfl
@[simp] theorem cells_bool (b : Bool) : (AV.bool b).cells = [.bool b] := rfl
@[simp] theorem cells_int (k : IntKind) (n : Int) : (AV.int k n).cells = [.int k n] := rfl
@[simp] theorem cells_str (s : List UInt8) : (AV.str s).cells = [.str s] := rfl
@[simp] theorem cells_nilptr : AV.nilptr.cells = [.nilptr] := rfl
@[simp] theorem cells_ptr (i o : Nat) : (AV.ptr i o).cells = [.ptr i o] := rfl
@[simp] theorem cells_vptr (c : List AV) : (AV.vptr c).cells = [.vptr c] := rfl
@[simp] theorem cells_nilsl : AV.nilsl.cells = [.nilsl] := rfl
@[simp] theorem cells_sl (i o z l c : Nat) (b : Bool) : (AV.sl i o z l c b).cells = [.sl i o z l c b] := rfl
@[simp] theorem cells_vsl (c : List AV) (n : Nat) : (AV.vsl c n).cells = [.vsl c n] := rfl
@[simp] theorem cells_nilmap : AV.nilmap.cells = [.nilmap] := rfl
@[simp] theorem cells_func (f : Fn) (a b : List AV) : (AV.func f a b).cells = [.func f a b] := rfl
@[simp] theorem cells_nilfunc : AV.nilfunc.cells = [.nilfunc] := rfl
@[simp] theorem cells_iface (t : TypeId) (v : AV) : (AV.iface t v).cells = [.iface t v] := rfl
@[simp] theorem cells_niliface : AV.niliface.cells = [.niliface] := rfl
@[simp] theorem cells_tuple (v : List AV) : (AV.tuple v).cells = [.tuple v] := rfl
theorem next_lt {H : AHeap} (hw : H.Wf) {i : Nat} {x : AObj} (h : H.get i = some x) : i < H.next := (hw i x h).1
@[simp] theorem push_set (H : AHeap) (x y : AObj) : (H.push x).set H.next y = H.push y := by
  refine AHeap.ext' rfl fun i => ?_
  simp only [AHeap.get_set, AHeap.get_push]
  split <;> rfl
@[simp] theorem set_set (H : AHeap) (i : Nat) (x y : AObj) : (H.set i x).set i y = H.set i y := AHeap.set_set H i x y
@[simp] theorem int_beq (a b : Int) : (a == b) = decide (a = b) := by
  rw [Bool.eq_iff_iff]; simp
end Go.Abs

namespace Go.Proofs
open Go Go.Abs
@[simp] theorem Tryz.asize0 : asize Tryz.prog 0 = some 1 := by kernel_rfl
@[simp] theorem Tryz.info0 : Tryz.prog.info? 0 = some Tryz.t0 := by kernel_rfl
@[simp] theorem Tryz.tsize0 : Tryz.t0.size = 1 := by kernel_rfl
@[simp] theorem Tryz.tbytes0 : Tryz.t0.bytes = 0 := by kernel_rfl
@[simp] theorem Tryz.builder0 : builderTy Tryz.prog 0 = false := by kernel_rfl
@[simp] theorem Tryz.azero0 : azero Tryz.prog 0 = some (.tuple []) := by kernel_rfl
@[simp] theorem Tryz.asize1 : asize Tryz.prog 1 = some 1 := by kernel_rfl
@[simp] theorem Tryz.info1 : Tryz.prog.info? 1 = some Tryz.t1 := by kernel_rfl
@[simp] theorem Tryz.tsize1 : Tryz.t1.size = 1 := by kernel_rfl
@[simp] theorem Tryz.tbytes1 : Tryz.t1.bytes = 8 := by kernel_rfl
@[simp] theorem Tryz.builder1 : builderTy Tryz.prog 1 = false := by kernel_rfl
@[simp] theorem Tryz.azero1 : azero Tryz.prog 1 = some (.nilfunc) := by kernel_rfl
@[simp] theorem Tryz.asize2 : asize Tryz.prog 2 = some 1 := by kernel_rfl
@[simp] theorem Tryz.info2 : Tryz.prog.info? 2 = some Tryz.t2 := by kernel_rfl
@[simp] theorem Tryz.tsize2 : Tryz.t2.size = 1 := by kernel_rfl
@[simp] theorem Tryz.tbytes2 : Tryz.t2.bytes = 8 := by kernel_rfl
@[simp] theorem Tryz.builder2 : builderTy Tryz.prog 2 = false := by kernel_rfl
@[simp] theorem Tryz.azero2 : azero Tryz.prog 2 = some (.int .i64 (0)) := by kernel_rfl
@[simp] theorem Tryz.asize3 : asize Tryz.prog 3 = some 1 := by kernel_rfl
@[simp] theorem Tryz.info3 : Tryz.prog.info? 3 = some Tryz.t3 := by kernel_rfl
@[simp] theorem Tryz.tsize3 : Tryz.t3.size = 1 := by kernel_rfl
@[simp] theorem Tryz.tbytes3 : Tryz.t3.bytes = 8 := by kernel_rfl
@[simp] theorem Tryz.builder3 : builderTy Tryz.prog 3 = false := by kernel_rfl
@[simp] theorem Tryz.azero3 : azero Tryz.prog 3 = some (.int .i64 (0)) := by kernel_rfl
@[simp] theorem Tryz.asize4 : asize Tryz.prog 4 = some 1 := by kernel_rfl
@[simp] theorem Tryz.info4 : Tryz.prog.info? 4 = some Tryz.t4 := by kernel_rfl
@[simp] theorem Tryz.tsize4 : Tryz.t4.size = 1 := by kernel_rfl
@[simp] theorem Tryz.tbytes4 : Tryz.t4.bytes = 1 := by kernel_rfl
@[simp] theorem Tryz.builder4 : builderTy Tryz.prog 4 = false := by kernel_rfl
@[simp] theorem Tryz.azero4 : azero Tryz.prog 4 = some (.bool false) := by kernel_rfl
@[simp] theorem Tryz.asize5 : asize Tryz.prog 5 = some 1 := by kernel_rfl
@[simp] theorem Tryz.info5 : Tryz.prog.info? 5 = some Tryz.t5 := by kernel_rfl
@[simp] theorem Tryz.tsize5 : Tryz.t5.size = 1 := by kernel_rfl
@[simp] theorem Tryz.tbytes5 : Tryz.t5.bytes = 1 := by kernel_rfl
@[simp] theorem Tryz.builder5 : builderTy Tryz.prog 5 = false := by kernel_rfl
@[simp] theorem Tryz.azero5 : azero Tryz.prog 5 = some (.int .u8 (0)) := by kernel_rfl
@[simp] theorem Tryz.asize6 : asize Tryz.prog 6 = some 1 := by kernel_rfl
@[simp] theorem Tryz.info6 : Tryz.prog.info? 6 = some Tryz.t6 := by kernel_rfl
@[simp] theorem Tryz.tsize6 : Tryz.t6.size = 1 := by kernel_rfl
@[simp] theorem Tryz.tbytes6 : Tryz.t6.bytes = 1 := by kernel_rfl
@[simp] theorem Tryz.builder6 : builderTy Tryz.prog 6 = false := by kernel_rfl
@[simp] theorem Tryz.azero6 : azero Tryz.prog 6 = some (.int .u8 (0)) := by kernel_rfl
@[simp] theorem Tryz.asize7 : asize Tryz.prog 7 = some 4 := by kernel_rfl
@[simp] theorem Tryz.info7 : Tryz.prog.info? 7 = some Tryz.t7 := by kernel_rfl
@[simp] theorem Tryz.tsize7 : Tryz.t7.size = 4 := by kernel_rfl
@[simp] theorem Tryz.tbytes7 : Tryz.t7.bytes = 24 := by kernel_rfl
@[simp] theorem Tryz.builder7 : builderTy Tryz.prog 7 = false := by kernel_rfl
@[simp] theorem Tryz.azero7 : azero Tryz.prog 7 = some (.agg [.int .i64 (0), .int .i64 (0), .bool false, .int .u8 (0)]) := by kernel_rfl
@[simp] theorem Tryz.asize8 : asize Tryz.prog 8 = some 4 := by kernel_rfl
@[simp] theorem Tryz.info8 : Tryz.prog.info? 8 = some Tryz.t8 := by kernel_rfl
@[simp] theorem Tryz.tsize8 : Tryz.t8.size = 4 := by kernel_rfl
@[simp] theorem Tryz.tbytes8 : Tryz.t8.bytes = 24 := by kernel_rfl
@[simp] theorem Tryz.builder8 : builderTy Tryz.prog 8 = false := by kernel_rfl
@[simp] theorem Tryz.azero8 : azero Tryz.prog 8 = some (.agg [.int .i64 (0), .int .i64 (0), .bool false, .int .u8 (0)]) := by kernel_rfl
@[simp] theorem Tryz.asize9 : asize Tryz.prog 9 = some 1 := by kernel_rfl
@[simp] theorem Tryz.info9 : Tryz.prog.info? 9 = some Tryz.t9 := by kernel_rfl
@[simp] theorem Tryz.tsize9 : Tryz.t9.size = 1 := by kernel_rfl
@[simp] theorem Tryz.tbytes9 : Tryz.t9.bytes = 16 := by kernel_rfl
@[simp] theorem Tryz.builder9 : builderTy Tryz.prog 9 = false := by kernel_rfl
@[simp] theorem Tryz.azero9 : azero Tryz.prog 9 = some (.str []) := by kernel_rfl
@[simp] theorem Tryz.asize10 : asize Tryz.prog 10 = some 1 := by kernel_rfl
@[simp] theorem Tryz.info10 : Tryz.prog.info? 10 = some Tryz.t10 := by kernel_rfl
@[simp] theorem Tryz.tsize10 : Tryz.t10.size = 1 := by kernel_rfl
@[simp] theorem Tryz.tbytes10 : Tryz.t10.bytes = 16 := by kernel_rfl
@[simp] theorem Tryz.builder10 : builderTy Tryz.prog 10 = false := by kernel_rfl
@[simp] theorem Tryz.azero10 : azero Tryz.prog 10 = some (.str []) := by kernel_rfl
@[simp] theorem Tryz.asize11 : asize Tryz.prog 11 = some 1 := by kernel_rfl
@[simp] theorem Tryz.info11 : Tryz.prog.info? 11 = some Tryz.t11 := by kernel_rfl
@[simp] theorem Tryz.tsize11 : Tryz.t11.size = 1 := by kernel_rfl
@[simp] theorem Tryz.tbytes11 : Tryz.t11.bytes = 16 := by kernel_rfl
@[simp] theorem Tryz.builder11 : builderTy Tryz.prog 11 = false := by kernel_rfl
@[simp] theorem Tryz.azero11 : azero Tryz.prog 11 = some (.str []) := by kernel_rfl
@[simp] theorem Tryz.asize12 : asize Tryz.prog 12 = some 1 := by kernel_rfl
@[simp] theorem Tryz.info12 : Tryz.prog.info? 12 = some Tryz.t12 := by kernel_rfl
@[simp] theorem Tryz.tsize12 : Tryz.t12.size = 1 := by kernel_rfl
@[simp] theorem Tryz.tbytes12 : Tryz.t12.bytes = 8 := by kernel_rfl
@[simp] theorem Tryz.builder12 : builderTy Tryz.prog 12 = false := by kernel_rfl
@[simp] theorem Tryz.azero12 : azero Tryz.prog 12 = some (.int .u64 (0)) := by kernel_rfl
@[simp] theorem Tryz.asize13 : asize Tryz.prog 13 = some 2 := by kernel_rfl
@[simp] theorem Tryz.info13 : Tryz.prog.info? 13 = some Tryz.t13 := by kernel_rfl
@[simp] theorem Tryz.tsize13 : Tryz.t13.size = 2 := by kernel_rfl
@[simp] theorem Tryz.tbytes13 : Tryz.t13.bytes = 24 := by kernel_rfl
@[simp] theorem Tryz.builder13 : builderTy Tryz.prog 13 = false := by kernel_rfl
@[simp] theorem Tryz.azero13 : azero Tryz.prog 13 = some (.agg [.str [], .int .u64 (0)]) := by kernel_rfl
@[simp] theorem Tryz.asize14 : asize Tryz.prog 14 = some 2 := by kernel_rfl
@[simp] theorem Tryz.info14 : Tryz.prog.info? 14 = some Tryz.t14 := by kernel_rfl
@[simp] theorem Tryz.tsize14 : Tryz.t14.size = 2 := by kernel_rfl
@[simp] theorem Tryz.tbytes14 : Tryz.t14.bytes = 24 := by kernel_rfl
@[simp] theorem Tryz.builder14 : builderTy Tryz.prog 14 = false := by kernel_rfl
@[simp] theorem Tryz.azero14 : azero Tryz.prog 14 = some (.agg [.str [], .int .u64 (0)]) := by kernel_rfl
@[simp] theorem Tryz.asize15 : asize Tryz.prog 15 = some 1 := by kernel_rfl
@[simp] theorem Tryz.info15 : Tryz.prog.info? 15 = some Tryz.t15 := by kernel_rfl
@[simp] theorem Tryz.tsize15 : Tryz.t15.size = 1 := by kernel_rfl
@[simp] theorem Tryz.tbytes15 : Tryz.t15.bytes = 8 := by kernel_rfl
@[simp] theorem Tryz.builder15 : builderTy Tryz.prog 15 = false := by kernel_rfl
@[simp] theorem Tryz.azero15 : azero Tryz.prog 15 = some (.nilptr) := by kernel_rfl
@[simp] theorem Tryz.asize16 : asize Tryz.prog 16 = some 1 := by kernel_rfl
@[simp] theorem Tryz.info16 : Tryz.prog.info? 16 = some Tryz.t16 := by kernel_rfl
@[simp] theorem Tryz.tsize16 : Tryz.t16.size = 1 := by kernel_rfl
@[simp] theorem Tryz.tbytes16 : Tryz.t16.bytes = 8 := by kernel_rfl
@[simp] theorem Tryz.builder16 : builderTy Tryz.prog 16 = false := by kernel_rfl
@[simp] theorem Tryz.azero16 : azero Tryz.prog 16 = some (.nilptr) := by kernel_rfl
@[simp] theorem Tryz.asize17 : asize Tryz.prog 17 = some 1 := by kernel_rfl
@[simp] theorem Tryz.info17 : Tryz.prog.info? 17 = some Tryz.t17 := by kernel_rfl
@[simp] theorem Tryz.tsize17 : Tryz.t17.size = 1 := by kernel_rfl
@[simp] theorem Tryz.tbytes17 : Tryz.t17.bytes = 8 := by kernel_rfl
@[simp] theorem Tryz.builder17 : builderTy Tryz.prog 17 = false := by kernel_rfl
@[simp] theorem Tryz.azero17 : azero Tryz.prog 17 = some (.nilptr) := by kernel_rfl
@[simp] theorem Tryz.asize18 : asize Tryz.prog 18 = some 1 := by kernel_rfl
@[simp] theorem Tryz.info18 : Tryz.prog.info? 18 = some Tryz.t18 := by kernel_rfl
@[simp] theorem Tryz.tsize18 : Tryz.t18.size = 1 := by kernel_rfl
@[simp] theorem Tryz.tbytes18 : Tryz.t18.bytes = 8 := by kernel_rfl
@[simp] theorem Tryz.builder18 : builderTy Tryz.prog 18 = false := by kernel_rfl
@[simp] theorem Tryz.azero18 : azero Tryz.prog 18 = some (.agg [.nilptr]) := by kernel_rfl
@[simp] theorem Tryz.asize19 : asize Tryz.prog 19 = some 1 := by kernel_rfl
@[simp] theorem Tryz.info19 : Tryz.prog.info? 19 = some Tryz.t19 := by kernel_rfl
@[simp] theorem Tryz.tsize19 : Tryz.t19.size = 1 := by kernel_rfl
@[simp] theorem Tryz.tbytes19 : Tryz.t19.bytes = 8 := by kernel_rfl
@[simp] theorem Tryz.builder19 : builderTy Tryz.prog 19 = false := by kernel_rfl
@[simp] theorem Tryz.azero19 : azero Tryz.prog 19 = some (.agg [.nilptr]) := by kernel_rfl
@[simp] theorem Tryz.asize20 : asize Tryz.prog 20 = some 1 := by kernel_rfl
@[simp] theorem Tryz.info20 : Tryz.prog.info? 20 = some Tryz.t20 := by kernel_rfl
@[simp] theorem Tryz.tsize20 : Tryz.t20.size = 1 := by kernel_rfl
@[simp] theorem Tryz.tbytes20 : Tryz.t20.bytes = 16 := by kernel_rfl
@[simp] theorem Tryz.builder20 : builderTy Tryz.prog 20 = false := by kernel_rfl
@[simp] theorem Tryz.azero20 : azero Tryz.prog 20 = some (.niliface) := by kernel_rfl
@[simp] theorem Tryz.asize21 : asize Tryz.prog 21 = some 1 := by kernel_rfl
@[simp] theorem Tryz.info21 : Tryz.prog.info? 21 = some Tryz.t21 := by kernel_rfl
@[simp] theorem Tryz.tsize21 : Tryz.t21.size = 1 := by kernel_rfl
@[simp] theorem Tryz.tbytes21 : Tryz.t21.bytes = 4 := by kernel_rfl
@[simp] theorem Tryz.builder21 : builderTy Tryz.prog 21 = false := by kernel_rfl
@[simp] theorem Tryz.azero21 : azero Tryz.prog 21 = some (.int .i32 (0)) := by kernel_rfl
@[simp] theorem Tryz.asize22 : asize Tryz.prog 22 = some 1 := by kernel_rfl
@[simp] theorem Tryz.info22 : Tryz.prog.info? 22 = some Tryz.t22 := by kernel_rfl
@[simp] theorem Tryz.tsize22 : Tryz.t22.size = 1 := by kernel_rfl
@[simp] theorem Tryz.tbytes22 : Tryz.t22.bytes = 8 := by kernel_rfl
@[simp] theorem Tryz.builder22 : builderTy Tryz.prog 22 = false := by kernel_rfl
@[simp] theorem Tryz.azero22 : azero Tryz.prog 22 = some (.nilfunc) := by kernel_rfl
@[simp] theorem Tryz.asize23 : asize Tryz.prog 23 = some 1 := by kernel_rfl
@[simp] theorem Tryz.info23 : Tryz.prog.info? 23 = some Tryz.t23 := by kernel_rfl
@[simp] theorem Tryz.tsize23 : Tryz.t23.size = 1 := by kernel_rfl
@[simp] theorem Tryz.tbytes23 : Tryz.t23.bytes = 24 := by kernel_rfl
@[simp] theorem Tryz.builder23 : builderTy Tryz.prog 23 = false := by kernel_rfl
@[simp] theorem Tryz.azero23 : azero Tryz.prog 23 = some (.nilsl) := by kernel_rfl
@[simp] theorem Tryz.asize24 : asize Tryz.prog 24 = some 1 := by kernel_rfl
@[simp] theorem Tryz.info24 : Tryz.prog.info? 24 = some Tryz.t24 := by kernel_rfl
@[simp] theorem Tryz.tsize24 : Tryz.t24.size = 1 := by kernel_rfl
@[simp] theorem Tryz.tbytes24 : Tryz.t24.bytes = 8 := by kernel_rfl
@[simp] theorem Tryz.builder24 : builderTy Tryz.prog 24 = false := by kernel_rfl
@[simp] theorem Tryz.azero24 : azero Tryz.prog 24 = some (.int .i64 (0)) := by kernel_rfl
@[simp] theorem Tryz.asize25 : asize Tryz.prog 25 = some 2 := by kernel_rfl
@[simp] theorem Tryz.info25 : Tryz.prog.info? 25 = some Tryz.t25 := by kernel_rfl
@[simp] theorem Tryz.tsize25 : Tryz.t25.size = 2 := by kernel_rfl
@[simp] theorem Tryz.tbytes25 : Tryz.t25.bytes = 16 := by kernel_rfl
@[simp] theorem Tryz.builder25 : builderTy Tryz.prog 25 = false := by kernel_rfl
@[simp] theorem Tryz.azero25 : azero Tryz.prog 25 = some (.agg [.int .i64 (0), .int .i64 (0)]) := by kernel_rfl
@[simp] theorem Tryz.asize26 : asize Tryz.prog 26 = some 2 := by kernel_rfl
@[simp] theorem Tryz.info26 : Tryz.prog.info? 26 = some Tryz.t26 := by kernel_rfl
@[simp] theorem Tryz.tsize26 : Tryz.t26.size = 2 := by kernel_rfl
@[simp] theorem Tryz.tbytes26 : Tryz.t26.bytes = 16 := by kernel_rfl
@[simp] theorem Tryz.builder26 : builderTy Tryz.prog 26 = false := by kernel_rfl
@[simp] theorem Tryz.azero26 : azero Tryz.prog 26 = some (.agg [.int .i64 (0), .int .i64 (0)]) := by kernel_rfl
@[simp] theorem Tryz.asize27 : asize Tryz.prog 27 = some 1 := by kernel_rfl
@[simp] theorem Tryz.info27 : Tryz.prog.info? 27 = some Tryz.t27 := by kernel_rfl
@[simp] theorem Tryz.tsize27 : Tryz.t27.size = 1 := by kernel_rfl
@[simp] theorem Tryz.tbytes27 : Tryz.t27.bytes = 0 := by kernel_rfl
@[simp] theorem Tryz.builder27 : builderTy Tryz.prog 27 = false := by kernel_rfl
@[simp] theorem Tryz.asize30 : asize Tryz.prog 30 = some 1 := by kernel_rfl
@[simp] theorem Tryz.info30 : Tryz.prog.info? 30 = some Tryz.t30 := by kernel_rfl
@[simp] theorem Tryz.tsize30 : Tryz.t30.size = 1 := by kernel_rfl
@[simp] theorem Tryz.tbytes30 : Tryz.t30.bytes = 8 := by kernel_rfl
@[simp] theorem Tryz.builder30 : builderTy Tryz.prog 30 = false := by kernel_rfl
@[simp] theorem Tryz.azero30 : azero Tryz.prog 30 = some (.nilfunc) := by kernel_rfl
@[simp] theorem Tryz.asize31 : asize Tryz.prog 31 = some 1 := by kernel_rfl
@[simp] theorem Tryz.info31 : Tryz.prog.info? 31 = some Tryz.t31 := by kernel_rfl
@[simp] theorem Tryz.tsize31 : Tryz.t31.size = 1 := by kernel_rfl
@[simp] theorem Tryz.tbytes31 : Tryz.t31.bytes = 8 := by kernel_rfl
@[simp] theorem Tryz.builder31 : builderTy Tryz.prog 31 = false := by kernel_rfl
@[simp] theorem Tryz.azero31 : azero Tryz.prog 31 = some (.nilfunc) := by kernel_rfl
@[simp] theorem Tryz.asize32 : asize Tryz.prog 32 = some 1 := by kernel_rfl
@[simp] theorem Tryz.info32 : Tryz.prog.info? 32 = some Tryz.t32 := by kernel_rfl
@[simp] theorem Tryz.tsize32 : Tryz.t32.size = 1 := by kernel_rfl
@[simp] theorem Tryz.tbytes32 : Tryz.t32.bytes = 8 := by kernel_rfl
@[simp] theorem Tryz.builder32 : builderTy Tryz.prog 32 = false := by kernel_rfl
@[simp] theorem Tryz.azero32 : azero Tryz.prog 32 = some (.nilfunc) := by kernel_rfl
@[simp] theorem Tryz.asize34 : asize Tryz.prog 34 = some 1 := by kernel_rfl
@[simp] theorem Tryz.info34 : Tryz.prog.info? 34 = some Tryz.t34 := by kernel_rfl
@[simp] theorem Tryz.tsize34 : Tryz.t34.size = 1 := by kernel_rfl
@[simp] theorem Tryz.tbytes34 : Tryz.t34.bytes = 24 := by kernel_rfl
@[simp] theorem Tryz.builder34 : builderTy Tryz.prog 34 = false := by kernel_rfl
@[simp] theorem Tryz.azero34 : azero Tryz.prog 34 = some (.nilsl) := by kernel_rfl
@[simp] theorem Tryz.asize35 : asize Tryz.prog 35 = some 1 := by kernel_rfl
@[simp] theorem Tryz.info35 : Tryz.prog.info? 35 = some Tryz.t35 := by kernel_rfl
@[simp] theorem Tryz.tsize35 : Tryz.t35.size = 1 := by kernel_rfl
@[simp] theorem Tryz.tbytes35 : Tryz.t35.bytes = 24 := by kernel_rfl
@[simp] theorem Tryz.builder35 : builderTy Tryz.prog 35 = false := by kernel_rfl
@[simp] theorem Tryz.azero35 : azero Tryz.prog 35 = some (.nilsl) := by kernel_rfl
@[simp] theorem Tryz.asize36 : asize Tryz.prog 36 = some 6 := by kernel_rfl
@[simp] theorem Tryz.info36 : Tryz.prog.info? 36 = some Tryz.t36 := by kernel_rfl
@[simp] theorem Tryz.tsize36 : Tryz.t36.size = 6 := by kernel_rfl
@[simp] theorem Tryz.tbytes36 : Tryz.t36.bytes = 120 := by kernel_rfl
@[simp] theorem Tryz.builder36 : builderTy Tryz.prog 36 = false := by kernel_rfl
@[simp] theorem Tryz.azero36 : azero Tryz.prog 36 = some (.agg [.str [], .nilsl, .nilsl, .nilsl, .nilsl, .int .i64 (0)]) := by kernel_rfl
@[simp] theorem Tryz.asize37 : asize Tryz.prog 37 = some 6 := by kernel_rfl
@[simp] theorem Tryz.info37 : Tryz.prog.info? 37 = some Tryz.t37 := by kernel_rfl
@[simp] theorem Tryz.tsize37 : Tryz.t37.size = 6 := by kernel_rfl
@[simp] theorem Tryz.tbytes37 : Tryz.t37.bytes = 120 := by kernel_rfl
@[simp] theorem Tryz.builder37 : builderTy Tryz.prog 37 = false := by kernel_rfl
@[simp] theorem Tryz.azero37 : azero Tryz.prog 37 = some (.agg [.str [], .nilsl, .nilsl, .nilsl, .nilsl, .int .i64 (0)]) := by kernel_rfl
@[simp] theorem Tryz.asize39 : asize Tryz.prog 39 = some 1 := by kernel_rfl
@[simp] theorem Tryz.info39 : Tryz.prog.info? 39 = some Tryz.t39 := by kernel_rfl
@[simp] theorem Tryz.tsize39 : Tryz.t39.size = 1 := by kernel_rfl
@[simp] theorem Tryz.tbytes39 : Tryz.t39.bytes = 24 := by kernel_rfl
@[simp] theorem Tryz.builder39 : builderTy Tryz.prog 39 = false := by kernel_rfl
@[simp] theorem Tryz.azero39 : azero Tryz.prog 39 = some (.nilsl) := by kernel_rfl
@[simp] theorem Tryz.asize40 : asize Tryz.prog 40 = some 5 := by kernel_rfl
@[simp] theorem Tryz.info40 : Tryz.prog.info? 40 = some Tryz.t40 := by kernel_rfl
@[simp] theorem Tryz.tsize40 : Tryz.t40.size = 5 := by kernel_rfl
@[simp] theorem Tryz.tbytes40 : Tryz.t40.bytes = 72 := by kernel_rfl
@[simp] theorem Tryz.builder40 : builderTy Tryz.prog 40 = false := by kernel_rfl
@[simp] theorem Tryz.azero40 : azero Tryz.prog 40 = some (.agg [.str [], .str [], .int .i64 (0), .int .i64 (0), .nilsl]) := by kernel_rfl
@[simp] theorem Tryz.asize41 : asize Tryz.prog 41 = some 5 := by kernel_rfl
@[simp] theorem Tryz.info41 : Tryz.prog.info? 41 = some Tryz.t41 := by kernel_rfl
@[simp] theorem Tryz.tsize41 : Tryz.t41.size = 5 := by kernel_rfl
@[simp] theorem Tryz.tbytes41 : Tryz.t41.bytes = 72 := by kernel_rfl
@[simp] theorem Tryz.builder41 : builderTy Tryz.prog 41 = false := by kernel_rfl
@[simp] theorem Tryz.azero41 : azero Tryz.prog 41 = some (.agg [.str [], .str [], .int .i64 (0), .int .i64 (0), .nilsl]) := by kernel_rfl
@[simp] theorem Tryz.asize42 : asize Tryz.prog 42 = some 7 := by kernel_rfl
@[simp] theorem Tryz.info42 : Tryz.prog.info? 42 = some Tryz.t42 := by kernel_rfl
@[simp] theorem Tryz.tsize42 : Tryz.t42.size = 7 := by kernel_rfl
@[simp] theorem Tryz.tbytes42 : Tryz.t42.bytes = 96 := by kernel_rfl
@[simp] theorem Tryz.builder42 : builderTy Tryz.prog 42 = false := by kernel_rfl
@[simp] theorem Tryz.azero42 : azero Tryz.prog 42 = some (.agg [.str [], .str [], .str [], .int .i64 (0), .int .i64 (0), .nilsl, .int .i64 (0)]) := by kernel_rfl
@[simp] theorem Tryz.asize43 : asize Tryz.prog 43 = some 7 := by kernel_rfl
@[simp] theorem Tryz.info43 : Tryz.prog.info? 43 = some Tryz.t43 := by kernel_rfl
@[simp] theorem Tryz.tsize43 : Tryz.t43.size = 7 := by kernel_rfl
@[simp] theorem Tryz.tbytes43 : Tryz.t43.bytes = 96 := by kernel_rfl
@[simp] theorem Tryz.builder43 : builderTy Tryz.prog 43 = false := by kernel_rfl
@[simp] theorem Tryz.azero43 : azero Tryz.prog 43 = some (.agg [.str [], .str [], .str [], .int .i64 (0), .int .i64 (0), .nilsl, .int .i64 (0)]) := by kernel_rfl
@[simp] theorem Tryz.asize44 : asize Tryz.prog 44 = some 1 := by kernel_rfl
@[simp] theorem Tryz.info44 : Tryz.prog.info? 44 = some Tryz.t44 := by kernel_rfl
@[simp] theorem Tryz.tsize44 : Tryz.t44.size = 1 := by kernel_rfl
@[simp] theorem Tryz.tbytes44 : Tryz.t44.bytes = 24 := by kernel_rfl
@[simp] theorem Tryz.builder44 : builderTy Tryz.prog 44 = false := by kernel_rfl
@[simp] theorem Tryz.azero44 : azero Tryz.prog 44 = some (.nilsl) := by kernel_rfl
@[simp] theorem Tryz.asize45 : asize Tryz.prog 45 = some 1 := by kernel_rfl
@[simp] theorem Tryz.info45 : Tryz.prog.info? 45 = some Tryz.t45 := by kernel_rfl
@[simp] theorem Tryz.tsize45 : Tryz.t45.size = 1 := by kernel_rfl
@[simp] theorem Tryz.tbytes45 : Tryz.t45.bytes = 0 := by kernel_rfl
@[simp] theorem Tryz.builder45 : builderTy Tryz.prog 45 = false := by kernel_rfl
@[simp] theorem Tryz.asize47 : asize Tryz.prog 47 = some 1 := by kernel_rfl
@[simp] theorem Tryz.info47 : Tryz.prog.info? 47 = some Tryz.t47 := by kernel_rfl
@[simp] theorem Tryz.tsize47 : Tryz.t47.size = 1 := by kernel_rfl
@[simp] theorem Tryz.tbytes47 : Tryz.t47.bytes = 8 := by kernel_rfl
@[simp] theorem Tryz.builder47 : builderTy Tryz.prog 47 = false := by kernel_rfl
@[simp] theorem Tryz.azero47 : azero Tryz.prog 47 = some (.nilptr) := by kernel_rfl
@[simp] theorem Tryz.asize48 : asize Tryz.prog 48 = some 6 := by kernel_rfl
@[simp] theorem Tryz.info48 : Tryz.prog.info? 48 = some Tryz.t48 := by kernel_rfl
@[simp] theorem Tryz.tsize48 : Tryz.t48.size = 6 := by kernel_rfl
@[simp] theorem Tryz.tbytes48 : Tryz.t48.bytes = 64 := by kernel_rfl
@[simp] theorem Tryz.builder48 : builderTy Tryz.prog 48 = false := by kernel_rfl
@[simp] theorem Tryz.azero48 : azero Tryz.prog 48 = some (.agg [.nilsl, .int .i64 (0), .int .i64 (0), .int .i64 (0), .int .i64 (0), .int .i64 (0)]) := by kernel_rfl
@[simp] theorem Tryz.asize49 : asize Tryz.prog 49 = some 6 := by kernel_rfl
@[simp] theorem Tryz.info49 : Tryz.prog.info? 49 = some Tryz.t49 := by kernel_rfl
@[simp] theorem Tryz.tsize49 : Tryz.t49.size = 6 := by kernel_rfl
@[simp] theorem Tryz.tbytes49 : Tryz.t49.bytes = 64 := by kernel_rfl
@[simp] theorem Tryz.builder49 : builderTy Tryz.prog 49 = false := by kernel_rfl
@[simp] theorem Tryz.azero49 : azero Tryz.prog 49 = some (.agg [.nilsl, .int .i64 (0), .int .i64 (0), .int .i64 (0), .int .i64 (0), .int .i64 (0)]) := by kernel_rfl
@[simp] theorem Tryz.asize50 : asize Tryz.prog 50 = some 4 := by kernel_rfl
@[simp] theorem Tryz.info50 : Tryz.prog.info? 50 = some Tryz.t50 := by kernel_rfl
@[simp] theorem Tryz.tsize50 : Tryz.t50.size = 4 := by kernel_rfl
@[simp] theorem Tryz.tbytes50 : Tryz.t50.bytes = 40 := by kernel_rfl
@[simp] theorem Tryz.builder50 : builderTy Tryz.prog 50 = false := by kernel_rfl
@[simp] theorem Tryz.azero50 : azero Tryz.prog 50 = some (.agg [.int .i64 (0), .str [], .int .i64 (0), .int .i64 (0)]) := by kernel_rfl
@[simp] theorem Tryz.asize51 : asize Tryz.prog 51 = some 4 := by kernel_rfl
@[simp] theorem Tryz.info51 : Tryz.prog.info? 51 = some Tryz.t51 := by kernel_rfl
@[simp] theorem Tryz.tsize51 : Tryz.t51.size = 4 := by kernel_rfl
@[simp] theorem Tryz.tbytes51 : Tryz.t51.bytes = 40 := by kernel_rfl
@[simp] theorem Tryz.builder51 : builderTy Tryz.prog 51 = false := by kernel_rfl
@[simp] theorem Tryz.azero51 : azero Tryz.prog 51 = some (.agg [.int .i64 (0), .str [], .int .i64 (0), .int .i64 (0)]) := by kernel_rfl
@[simp] theorem Tryz.asize52 : asize Tryz.prog 52 = some 1 := by kernel_rfl
@[simp] theorem Tryz.info52 : Tryz.prog.info? 52 = some Tryz.t52 := by kernel_rfl
@[simp] theorem Tryz.tsize52 : Tryz.t52.size = 1 := by kernel_rfl
@[simp] theorem Tryz.tbytes52 : Tryz.t52.bytes = 8 := by kernel_rfl
@[simp] theorem Tryz.builder52 : builderTy Tryz.prog 52 = false := by kernel_rfl
@[simp] theorem Tryz.azero52 : azero Tryz.prog 52 = some (.nilfunc) := by kernel_rfl
@[simp] theorem Tryz.asize53 : asize Tryz.prog 53 = some 1 := by kernel_rfl
@[simp] theorem Tryz.info53 : Tryz.prog.info? 53 = some Tryz.t53 := by kernel_rfl
@[simp] theorem Tryz.tsize53 : Tryz.t53.size = 1 := by kernel_rfl
@[simp] theorem Tryz.tbytes53 : Tryz.t53.bytes = 8 := by kernel_rfl
@[simp] theorem Tryz.builder53 : builderTy Tryz.prog 53 = false := by kernel_rfl
@[simp] theorem Tryz.azero53 : azero Tryz.prog 53 = some (.nilfunc) := by kernel_rfl
@[simp] theorem Tryz.asize54 : asize Tryz.prog 54 = some 1 := by kernel_rfl
@[simp] theorem Tryz.info54 : Tryz.prog.info? 54 = some Tryz.t54 := by kernel_rfl
@[simp] theorem Tryz.tsize54 : Tryz.t54.size = 1 := by kernel_rfl
@[simp] theorem Tryz.tbytes54 : Tryz.t54.bytes = 8 := by kernel_rfl
@[simp] theorem Tryz.builder54 : builderTy Tryz.prog 54 = false := by kernel_rfl
@[simp] theorem Tryz.azero54 : azero Tryz.prog 54 = some (.nilfunc) := by kernel_rfl
@[simp] theorem Tryz.asize55 : asize Tryz.prog 55 = some 1 := by kernel_rfl
@[simp] theorem Tryz.info55 : Tryz.prog.info? 55 = some Tryz.t55 := by kernel_rfl
@[simp] theorem Tryz.tsize55 : Tryz.t55.size = 1 := by kernel_rfl
@[simp] theorem Tryz.tbytes55 : Tryz.t55.bytes = 8 := by kernel_rfl
@[simp] theorem Tryz.builder55 : builderTy Tryz.prog 55 = false := by kernel_rfl
@[simp] theorem Tryz.azero55 : azero Tryz.prog 55 = some (.nilptr) := by kernel_rfl
@[simp] theorem Tryz.asize56 : asize Tryz.prog 56 = some 1 := by kernel_rfl
@[simp] theorem Tryz.info56 : Tryz.prog.info? 56 = some Tryz.t56 := by kernel_rfl
@[simp] theorem Tryz.tsize56 : Tryz.t56.size = 1 := by kernel_rfl
@[simp] theorem Tryz.tbytes56 : Tryz.t56.bytes = 8 := by kernel_rfl
@[simp] theorem Tryz.builder56 : builderTy Tryz.prog 56 = false := by kernel_rfl
@[simp] theorem Tryz.azero56 : azero Tryz.prog 56 = some (.nilptr) := by kernel_rfl
@[simp] theorem Tryz.asize57 : asize Tryz.prog 57 = some 1 := by kernel_rfl
@[simp] theorem Tryz.info57 : Tryz.prog.info? 57 = some Tryz.t57 := by kernel_rfl
@[simp] theorem Tryz.tsize57 : Tryz.t57.size = 1 := by kernel_rfl
@[simp] theorem Tryz.tbytes57 : Tryz.t57.bytes = 24 := by kernel_rfl
@[simp] theorem Tryz.builder57 : builderTy Tryz.prog 57 = false := by kernel_rfl
@[simp] theorem Tryz.azero57 : azero Tryz.prog 57 = some (.nilsl) := by kernel_rfl
@[simp] theorem Tryz.asize58 : asize Tryz.prog 58 = some 2 := by kernel_rfl
@[simp] theorem Tryz.info58 : Tryz.prog.info? 58 = some Tryz.t58 := by kernel_rfl
@[simp] theorem Tryz.tsize58 : Tryz.t58.size = 2 := by kernel_rfl
@[simp] theorem Tryz.tbytes58 : Tryz.t58.bytes = 32 := by kernel_rfl
@[simp] theorem Tryz.builder58 : builderTy Tryz.prog 58 = false := by kernel_rfl
@[simp] theorem Tryz.azero58 : azero Tryz.prog 58 = some (.agg [.nilptr, .nilsl]) := by kernel_rfl
@[simp] theorem Tryz.asize59 : asize Tryz.prog 59 = some 2 := by kernel_rfl
@[simp] theorem Tryz.info59 : Tryz.prog.info? 59 = some Tryz.t59 := by kernel_rfl
@[simp] theorem Tryz.tsize59 : Tryz.t59.size = 2 := by kernel_rfl
@[simp] theorem Tryz.tbytes59 : Tryz.t59.bytes = 32 := by kernel_rfl
@[simp] theorem Tryz.builder59 : builderTy Tryz.prog 59 = true := by kernel_rfl
@[simp] theorem Tryz.azero59 : azero Tryz.prog 59 = some (.agg [.nilptr, .nilsl]) := by kernel_rfl
@[simp] theorem Tryz.asize60 : asize Tryz.prog 60 = some 2 := by kernel_rfl
@[simp] theorem Tryz.info60 : Tryz.prog.info? 60 = some Tryz.t60 := by kernel_rfl
@[simp] theorem Tryz.tsize60 : Tryz.t60.size = 2 := by kernel_rfl
@[simp] theorem Tryz.tbytes60 : Tryz.t60.bytes = 32 := by kernel_rfl
@[simp] theorem Tryz.builder60 : builderTy Tryz.prog 60 = true := by kernel_rfl
@[simp] theorem Tryz.azero60 : azero Tryz.prog 60 = some (.agg [.nilptr, .nilsl]) := by kernel_rfl
@[simp] theorem Tryz.asize61 : asize Tryz.prog 61 = some 2 := by kernel_rfl
@[simp] theorem Tryz.info61 : Tryz.prog.info? 61 = some Tryz.t61 := by kernel_rfl
@[simp] theorem Tryz.tsize61 : Tryz.t61.size = 2 := by kernel_rfl
@[simp] theorem Tryz.tbytes61 : Tryz.t61.bytes = 32 := by kernel_rfl
@[simp] theorem Tryz.builder61 : builderTy Tryz.prog 61 = true := by kernel_rfl
@[simp] theorem Tryz.azero61 : azero Tryz.prog 61 = some (.agg [.nilptr, .nilsl]) := by kernel_rfl
@[simp] theorem Tryz.asize62 : asize Tryz.prog 62 = some 1 := by kernel_rfl
@[simp] theorem Tryz.info62 : Tryz.prog.info? 62 = some Tryz.t62 := by kernel_rfl
@[simp] theorem Tryz.tsize62 : Tryz.t62.size = 1 := by kernel_rfl
@[simp] theorem Tryz.tbytes62 : Tryz.t62.bytes = 16 := by kernel_rfl
@[simp] theorem Tryz.builder62 : builderTy Tryz.prog 62 = false := by kernel_rfl
@[simp] theorem Tryz.azero62 : azero Tryz.prog 62 = some (.niliface) := by kernel_rfl
@[simp] theorem Tryz.asize63 : asize Tryz.prog 63 = some 1 := by kernel_rfl
@[simp] theorem Tryz.info63 : Tryz.prog.info? 63 = some Tryz.t63 := by kernel_rfl
@[simp] theorem Tryz.tsize63 : Tryz.t63.size = 1 := by kernel_rfl
@[simp] theorem Tryz.tbytes63 : Tryz.t63.bytes = 16 := by kernel_rfl
@[simp] theorem Tryz.builder63 : builderTy Tryz.prog 63 = false := by kernel_rfl
@[simp] theorem Tryz.azero63 : azero Tryz.prog 63 = some (.niliface) := by kernel_rfl
@[simp] theorem Tryz.asize64 : asize Tryz.prog 64 = some 1 := by kernel_rfl
@[simp] theorem Tryz.info64 : Tryz.prog.info? 64 = some Tryz.t64 := by kernel_rfl
@[simp] theorem Tryz.tsize64 : Tryz.t64.size = 1 := by kernel_rfl
@[simp] theorem Tryz.tbytes64 : Tryz.t64.bytes = 0 := by kernel_rfl
@[simp] theorem Tryz.builder64 : builderTy Tryz.prog 64 = false := by kernel_rfl
@[simp] theorem Tryz.azero64 : azero Tryz.prog 64 = some (.tuple [.int .i64 (0), .niliface]) := by kernel_rfl
@[simp] theorem Tryz.asize65 : asize Tryz.prog 65 = some 1 := by kernel_rfl
@[simp] theorem Tryz.info65 : Tryz.prog.info? 65 = some Tryz.t65 := by kernel_rfl
@[simp] theorem Tryz.tsize65 : Tryz.t65.size = 1 := by kernel_rfl
@[simp] theorem Tryz.tbytes65 : Tryz.t65.bytes = 8 := by kernel_rfl
@[simp] theorem Tryz.builder65 : builderTy Tryz.prog 65 = false := by kernel_rfl
@[simp] theorem Tryz.azero65 : azero Tryz.prog 65 = some (.nilfunc) := by kernel_rfl
@[simp] theorem Tryz.asize68 : asize Tryz.prog 68 = some 1 := by kernel_rfl
@[simp] theorem Tryz.info68 : Tryz.prog.info? 68 = some Tryz.t68 := by kernel_rfl
@[simp] theorem Tryz.tsize68 : Tryz.t68.size = 1 := by kernel_rfl
@[simp] theorem Tryz.tbytes68 : Tryz.t68.bytes = 8 := by kernel_rfl
@[simp] theorem Tryz.builder68 : builderTy Tryz.prog 68 = false := by kernel_rfl
@[simp] theorem Tryz.azero68 : azero Tryz.prog 68 = some (.int .i64 (0)) := by kernel_rfl
@[simp] theorem Tryz.asize69 : asize Tryz.prog 69 = some 5 := by kernel_rfl
@[simp] theorem Tryz.info69 : Tryz.prog.info? 69 = some Tryz.t69 := by kernel_rfl
@[simp] theorem Tryz.tsize69 : Tryz.t69.size = 5 := by kernel_rfl
@[simp] theorem Tryz.tbytes69 : Tryz.t69.bytes = 56 := by kernel_rfl
@[simp] theorem Tryz.builder69 : builderTy Tryz.prog 69 = false := by kernel_rfl
@[simp] theorem Tryz.azero69 : azero Tryz.prog 69 = some (.agg [.str [], .int .i64 (0), .str [], .bool false, .int .i64 (0)]) := by kernel_rfl
@[simp] theorem Tryz.asize70 : asize Tryz.prog 70 = some 5 := by kernel_rfl
@[simp] theorem Tryz.info70 : Tryz.prog.info? 70 = some Tryz.t70 := by kernel_rfl
@[simp] theorem Tryz.tsize70 : Tryz.t70.size = 5 := by kernel_rfl
@[simp] theorem Tryz.tbytes70 : Tryz.t70.bytes = 56 := by kernel_rfl
@[simp] theorem Tryz.builder70 : builderTy Tryz.prog 70 = false := by kernel_rfl
@[simp] theorem Tryz.azero70 : azero Tryz.prog 70 = some (.agg [.str [], .int .i64 (0), .str [], .bool false, .int .i64 (0)]) := by kernel_rfl
@[simp] theorem Tryz.asize71 : asize Tryz.prog 71 = some 1 := by kernel_rfl
@[simp] theorem Tryz.info71 : Tryz.prog.info? 71 = some Tryz.t71 := by kernel_rfl
@[simp] theorem Tryz.tsize71 : Tryz.t71.size = 1 := by kernel_rfl
@[simp] theorem Tryz.tbytes71 : Tryz.t71.bytes = 8 := by kernel_rfl
@[simp] theorem Tryz.builder71 : builderTy Tryz.prog 71 = false := by kernel_rfl
@[simp] theorem Tryz.azero71 : azero Tryz.prog 71 = some (.nilfunc) := by kernel_rfl
@[simp] theorem Tryz.asize72 : asize Tryz.prog 72 = some 1 := by kernel_rfl
@[simp] theorem Tryz.info72 : Tryz.prog.info? 72 = some Tryz.t72 := by kernel_rfl
@[simp] theorem Tryz.tsize72 : Tryz.t72.size = 1 := by kernel_rfl
@[simp] theorem Tryz.tbytes72 : Tryz.t72.bytes = 8 := by kernel_rfl
@[simp] theorem Tryz.builder72 : builderTy Tryz.prog 72 = false := by kernel_rfl
@[simp] theorem Tryz.azero72 : azero Tryz.prog 72 = some (.nilfunc) := by kernel_rfl
@[simp] theorem Tryz.asize73 : asize Tryz.prog 73 = some 1 := by kernel_rfl
@[simp] theorem Tryz.info73 : Tryz.prog.info? 73 = some Tryz.t73 := by kernel_rfl
@[simp] theorem Tryz.tsize73 : Tryz.t73.size = 1 := by kernel_rfl
@[simp] theorem Tryz.tbytes73 : Tryz.t73.bytes = 8 := by kernel_rfl
@[simp] theorem Tryz.builder73 : builderTy Tryz.prog 73 = false := by kernel_rfl
@[simp] theorem Tryz.azero73 : azero Tryz.prog 73 = some (.nilfunc) := by kernel_rfl
@[simp] theorem Tryz.asize77 : asize Tryz.prog 77 = some 1 := by kernel_rfl
@[simp] theorem Tryz.info77 : Tryz.prog.info? 77 = some Tryz.t77 := by kernel_rfl
@[simp] theorem Tryz.tsize77 : Tryz.t77.size = 1 := by kernel_rfl
@[simp] theorem Tryz.tbytes77 : Tryz.t77.bytes = 8 := by kernel_rfl
@[simp] theorem Tryz.builder77 : builderTy Tryz.prog 77 = false := by kernel_rfl
@[simp] theorem Tryz.azero77 : azero Tryz.prog 77 = some (.nilfunc) := by kernel_rfl
@[simp] theorem Tryz.asize78 : asize Tryz.prog 78 = some 1 := by kernel_rfl
@[simp] theorem Tryz.info78 : Tryz.prog.info? 78 = some Tryz.t78 := by kernel_rfl
@[simp] theorem Tryz.tsize78 : Tryz.t78.size = 1 := by kernel_rfl
@[simp] theorem Tryz.tbytes78 : Tryz.t78.bytes = 8 := by kernel_rfl
@[simp] theorem Tryz.builder78 : builderTy Tryz.prog 78 = false := by kernel_rfl
@[simp] theorem Tryz.azero78 : azero Tryz.prog 78 = some (.nilfunc) := by kernel_rfl
@[simp] theorem Tryz.asize79 : asize Tryz.prog 79 = some 1 := by kernel_rfl
@[simp] theorem Tryz.info79 : Tryz.prog.info? 79 = some Tryz.t79 := by kernel_rfl
@[simp] theorem Tryz.tsize79 : Tryz.t79.size = 1 := by kernel_rfl
@[simp] theorem Tryz.tbytes79 : Tryz.t79.bytes = 0 := by kernel_rfl
@[simp] theorem Tryz.builder79 : builderTy Tryz.prog 79 = false := by kernel_rfl
@[simp] theorem Tryz.asize83 : asize Tryz.prog 83 = some 1 := by kernel_rfl
@[simp] theorem Tryz.info83 : Tryz.prog.info? 83 = some Tryz.t83 := by kernel_rfl
@[simp] theorem Tryz.tsize83 : Tryz.t83.size = 1 := by kernel_rfl
@[simp] theorem Tryz.tbytes83 : Tryz.t83.bytes = 8 := by kernel_rfl
@[simp] theorem Tryz.builder83 : builderTy Tryz.prog 83 = false := by kernel_rfl
@[simp] theorem Tryz.azero83 : azero Tryz.prog 83 = some (.nilfunc) := by kernel_rfl
@[simp] theorem Tryz.asize84 : asize Tryz.prog 84 = some 1 := by kernel_rfl
@[simp] theorem Tryz.info84 : Tryz.prog.info? 84 = some Tryz.t84 := by kernel_rfl
@[simp] theorem Tryz.tsize84 : Tryz.t84.size = 1 := by kernel_rfl
@[simp] theorem Tryz.tbytes84 : Tryz.t84.bytes = 24 := by kernel_rfl
@[simp] theorem Tryz.builder84 : builderTy Tryz.prog 84 = false := by kernel_rfl
@[simp] theorem Tryz.azero84 : azero Tryz.prog 84 = some (.nilsl) := by kernel_rfl
@[simp] theorem Tryz.asize88 : asize Tryz.prog 88 = some 1 := by kernel_rfl
@[simp] theorem Tryz.info88 : Tryz.prog.info? 88 = some Tryz.t88 := by kernel_rfl
@[simp] theorem Tryz.tsize88 : Tryz.t88.size = 1 := by kernel_rfl
@[simp] theorem Tryz.tbytes88 : Tryz.t88.bytes = 8 := by kernel_rfl
@[simp] theorem Tryz.builder88 : builderTy Tryz.prog 88 = false := by kernel_rfl
@[simp] theorem Tryz.azero88 : azero Tryz.prog 88 = some (.nilfunc) := by kernel_rfl
@[simp] theorem Tryz.asize89 : asize Tryz.prog 89 = some 1 := by kernel_rfl
@[simp] theorem Tryz.info89 : Tryz.prog.info? 89 = some Tryz.t89 := by kernel_rfl
@[simp] theorem Tryz.tsize89 : Tryz.t89.size = 1 := by kernel_rfl
@[simp] theorem Tryz.tbytes89 : Tryz.t89.bytes = 8 := by kernel_rfl
@[simp] theorem Tryz.builder89 : builderTy Tryz.prog 89 = false := by kernel_rfl
@[simp] theorem Tryz.azero89 : azero Tryz.prog 89 = some (.nilptr) := by kernel_rfl
@[simp] theorem Tryz.asize94 : asize Tryz.prog 94 = some 1 := by kernel_rfl
@[simp] theorem Tryz.info94 : Tryz.prog.info? 94 = some Tryz.t94 := by kernel_rfl
@[simp] theorem Tryz.tsize94 : Tryz.t94.size = 1 := by kernel_rfl
@[simp] theorem Tryz.tbytes94 : Tryz.t94.bytes = 8 := by kernel_rfl
@[simp] theorem Tryz.builder94 : builderTy Tryz.prog 94 = false := by kernel_rfl
@[simp] theorem Tryz.azero94 : azero Tryz.prog 94 = some (.nilptr) := by kernel_rfl
@[simp] theorem Tryz.asize95 : asize Tryz.prog 95 = some 1 := by kernel_rfl
@[simp] theorem Tryz.info95 : Tryz.prog.info? 95 = some Tryz.t95 := by kernel_rfl
@[simp] theorem Tryz.tsize95 : Tryz.t95.size = 1 := by kernel_rfl
@[simp] theorem Tryz.tbytes95 : Tryz.t95.bytes = 8 := by kernel_rfl
@[simp] theorem Tryz.builder95 : builderTy Tryz.prog 95 = false := by kernel_rfl
@[simp] theorem Tryz.azero95 : azero Tryz.prog 95 = some (.nilfunc) := by kernel_rfl
@[simp] theorem Tryz.asize97 : asize Tryz.prog 97 = some 1 := by kernel_rfl
@[simp] theorem Tryz.info97 : Tryz.prog.info? 97 = some Tryz.t97 := by kernel_rfl
@[simp] theorem Tryz.tsize97 : Tryz.t97.size = 1 := by kernel_rfl
@[simp] theorem Tryz.tbytes97 : Tryz.t97.bytes = 8 := by kernel_rfl
@[simp] theorem Tryz.builder97 : builderTy Tryz.prog 97 = false := by kernel_rfl
@[simp] theorem Tryz.azero97 : azero Tryz.prog 97 = some (.nilfunc) := by kernel_rfl
@[simp] theorem Tryz.asize98 : asize Tryz.prog 98 = some 1 := by kernel_rfl
@[simp] theorem Tryz.info98 : Tryz.prog.info? 98 = some Tryz.t98 := by kernel_rfl
@[simp] theorem Tryz.tsize98 : Tryz.t98.size = 1 := by kernel_rfl
@[simp] theorem Tryz.tbytes98 : Tryz.t98.bytes = 8 := by kernel_rfl
@[simp] theorem Tryz.builder98 : builderTy Tryz.prog 98 = false := by kernel_rfl
@[simp] theorem Tryz.azero98 : azero Tryz.prog 98 = some (.nilfunc) := by kernel_rfl
@[simp] theorem Tryz.asize99 : asize Tryz.prog 99 = some 1 := by kernel_rfl
@[simp] theorem Tryz.info99 : Tryz.prog.info? 99 = some Tryz.t99 := by kernel_rfl
@[simp] theorem Tryz.tsize99 : Tryz.t99.size = 1 := by kernel_rfl
@[simp] theorem Tryz.tbytes99 : Tryz.t99.bytes = 0 := by kernel_rfl
@[simp] theorem Tryz.builder99 : builderTy Tryz.prog 99 = false := by kernel_rfl
@[simp] theorem Tryz.azero99 : azero Tryz.prog 99 = some (.tuple [.int .i64 (0), .niliface]) := by kernel_rfl
@[simp] theorem Tryz.asize100 : asize Tryz.prog 100 = some 1 := by kernel_rfl
@[simp] theorem Tryz.info100 : Tryz.prog.info? 100 = some Tryz.t100 := by kernel_rfl
@[simp] theorem Tryz.tsize100 : Tryz.t100.size = 1 := by kernel_rfl
@[simp] theorem Tryz.tbytes100 : Tryz.t100.bytes = 8 := by kernel_rfl
@[simp] theorem Tryz.builder100 : builderTy Tryz.prog 100 = false := by kernel_rfl
@[simp] theorem Tryz.azero100 : azero Tryz.prog 100 = some (.nilfunc) := by kernel_rfl
@[simp] theorem Tryz.asize105 : asize Tryz.prog 105 = some 24 := by kernel_rfl
@[simp] theorem Tryz.info105 : Tryz.prog.info? 105 = some Tryz.t105 := by kernel_rfl
@[simp] theorem Tryz.tsize105 : Tryz.t105.size = 24 := by kernel_rfl
@[simp] theorem Tryz.tbytes105 : Tryz.t105.bytes = 24 := by kernel_rfl
@[simp] theorem Tryz.builder105 : builderTy Tryz.prog 105 = false := by kernel_rfl
@[simp] theorem Tryz.azero105 : azero Tryz.prog 105 = some (.agg [.int .u8 (0), .int .u8 (0), .int .u8 (0), .int .u8 (0), .int .u8 (0), .int .u8 (0), .int .u8 (0), .int .u8 (0), .int .u8 (0), .int .u8 (0), .int .u8 (0), .int .u8 (0), .int .u8 (0), .int .u8 (0), .int .u8 (0), .int .u8 (0), .int .u8 (0), .int .u8 (0), .int .u8 (0), .int .u8 (0), .int .u8 (0), .int .u8 (0), .int .u8 (0), .int .u8 (0)]) := by kernel_rfl
@[simp] theorem Tryz.asize106 : asize Tryz.prog 106 = some 1 := by kernel_rfl
@[simp] theorem Tryz.info106 : Tryz.prog.info? 106 = some Tryz.t106 := by kernel_rfl
@[simp] theorem Tryz.tsize106 : Tryz.t106.size = 1 := by kernel_rfl
@[simp] theorem Tryz.tbytes106 : Tryz.t106.bytes = 8 := by kernel_rfl
@[simp] theorem Tryz.builder106 : builderTy Tryz.prog 106 = false := by kernel_rfl
@[simp] theorem Tryz.azero106 : azero Tryz.prog 106 = some (.int .u64 (0)) := by kernel_rfl
@[simp] theorem Tryz.asize109 : asize Tryz.prog 109 = some 1 := by kernel_rfl
@[simp] theorem Tryz.info109 : Tryz.prog.info? 109 = some Tryz.t109 := by kernel_rfl
@[simp] theorem Tryz.tsize109 : Tryz.t109.size = 1 := by kernel_rfl
@[simp] theorem Tryz.tbytes109 : Tryz.t109.bytes = 0 := by kernel_rfl
@[simp] theorem Tryz.builder109 : builderTy Tryz.prog 109 = false := by kernel_rfl
@[simp] theorem Tryz.azero109 : azero Tryz.prog 109 = some (.tuple [.nilsl, .str []]) := by kernel_rfl
@[simp] theorem Tryz.asize111 : asize Tryz.prog 111 = some 1 := by kernel_rfl
@[simp] theorem Tryz.info111 : Tryz.prog.info? 111 = some Tryz.t111 := by kernel_rfl
@[simp] theorem Tryz.tsize111 : Tryz.t111.size = 1 := by kernel_rfl
@[simp] theorem Tryz.tbytes111 : Tryz.t111.bytes = 8 := by kernel_rfl
@[simp] theorem Tryz.builder111 : builderTy Tryz.prog 111 = false := by kernel_rfl
@[simp] theorem Tryz.azero111 : azero Tryz.prog 111 = some (.nilfunc) := by kernel_rfl
@[simp] theorem Tryz.asize112 : asize Tryz.prog 112 = some 256 := by kernel_rfl
@[simp] theorem Tryz.info112 : Tryz.prog.info? 112 = some Tryz.t112 := by kernel_rfl
@[simp] theorem Tryz.tsize112 : Tryz.t112.size = 256 := by kernel_rfl
@[simp] theorem Tryz.tbytes112 : Tryz.t112.bytes = 256 := by kernel_rfl
@[simp] theorem Tryz.builder112 : builderTy Tryz.prog 112 = false := by kernel_rfl
@[simp] theorem Tryz.asize113 : asize Tryz.prog 113 = some 256 := by kernel_rfl
@[simp] theorem Tryz.info113 : Tryz.prog.info? 113 = some Tryz.t113 := by kernel_rfl
@[simp] theorem Tryz.tsize113 : Tryz.t113.size = 256 := by kernel_rfl
@[simp] theorem Tryz.tbytes113 : Tryz.t113.bytes = 256 := by kernel_rfl
@[simp] theorem Tryz.builder113 : builderTy Tryz.prog 113 = false := by kernel_rfl
@[simp] theorem Tryz.asize114 : asize Tryz.prog 114 = some 1 := by kernel_rfl
@[simp] theorem Tryz.info114 : Tryz.prog.info? 114 = some Tryz.t114 := by kernel_rfl
@[simp] theorem Tryz.tsize114 : Tryz.t114.size = 1 := by kernel_rfl
@[simp] theorem Tryz.tbytes114 : Tryz.t114.bytes = 0 := by kernel_rfl
@[simp] theorem Tryz.builder114 : builderTy Tryz.prog 114 = false := by kernel_rfl
@[simp] theorem Tryz.asize117 : asize Tryz.prog 117 = some 1 := by kernel_rfl
@[simp] theorem Tryz.info117 : Tryz.prog.info? 117 = some Tryz.t117 := by kernel_rfl
@[simp] theorem Tryz.tsize117 : Tryz.t117.size = 1 := by kernel_rfl
@[simp] theorem Tryz.tbytes117 : Tryz.t117.bytes = 8 := by kernel_rfl
@[simp] theorem Tryz.builder117 : builderTy Tryz.prog 117 = false := by kernel_rfl
@[simp] theorem Tryz.azero117 : azero Tryz.prog 117 = some (.nilptr) := by kernel_rfl
@[simp] theorem Tryz.asize120 : asize Tryz.prog 120 = some 1 := by kernel_rfl
@[simp] theorem Tryz.info120 : Tryz.prog.info? 120 = some Tryz.t120 := by kernel_rfl
@[simp] theorem Tryz.tsize120 : Tryz.t120.size = 1 := by kernel_rfl
@[simp] theorem Tryz.tbytes120 : Tryz.t120.bytes = 8 := by kernel_rfl
@[simp] theorem Tryz.builder120 : builderTy Tryz.prog 120 = false := by kernel_rfl
@[simp] theorem Tryz.azero120 : azero Tryz.prog 120 = some (.nilfunc) := by kernel_rfl
@[simp] theorem Tryz.asize122 : asize Tryz.prog 122 = some 1 := by kernel_rfl
@[simp] theorem Tryz.info122 : Tryz.prog.info? 122 = some Tryz.t122 := by kernel_rfl
@[simp] theorem Tryz.tsize122 : Tryz.t122.size = 1 := by kernel_rfl
@[simp] theorem Tryz.tbytes122 : Tryz.t122.bytes = 8 := by kernel_rfl
@[simp] theorem Tryz.builder122 : builderTy Tryz.prog 122 = false := by kernel_rfl
@[simp] theorem Tryz.azero122 : azero Tryz.prog 122 = some (.nilfunc) := by kernel_rfl
@[simp] theorem Tryz.asize124 : asize Tryz.prog 124 = some 20 := by kernel_rfl
@[simp] theorem Tryz.info124 : Tryz.prog.info? 124 = some Tryz.t124 := by kernel_rfl
@[simp] theorem Tryz.tsize124 : Tryz.t124.size = 20 := by kernel_rfl
@[simp] theorem Tryz.tbytes124 : Tryz.t124.bytes = 160 := by kernel_rfl
@[simp] theorem Tryz.builder124 : builderTy Tryz.prog 124 = false := by kernel_rfl
@[simp] theorem Tryz.azero124 : azero Tryz.prog 124 = some (.agg [.int .u64 (0), .int .u64 (0), .int .u64 (0), .int .u64 (0), .int .u64 (0), .int .u64 (0), .int .u64 (0), .int .u64 (0), .int .u64 (0), .int .u64 (0), .int .u64 (0), .int .u64 (0), .int .u64 (0), .int .u64 (0), .int .u64 (0), .int .u64 (0), .int .u64 (0), .int .u64 (0), .int .u64 (0), .int .u64 (0)]) := by kernel_rfl
@[simp] theorem Tryz.asize125 : asize Tryz.prog 125 = some 1 := by kernel_rfl
@[simp] theorem Tryz.info125 : Tryz.prog.info? 125 = some Tryz.t125 := by kernel_rfl
@[simp] theorem Tryz.tsize125 : Tryz.t125.size = 1 := by kernel_rfl
@[simp] theorem Tryz.tbytes125 : Tryz.t125.bytes = 4 := by kernel_rfl
@[simp] theorem Tryz.builder125 : builderTy Tryz.prog 125 = false := by kernel_rfl
@[simp] theorem Tryz.azero125 : azero Tryz.prog 125 = some (.int .u32 (0)) := by kernel_rfl
@[simp] theorem Tryz.asize126 : asize Tryz.prog 126 = some 65 := by kernel_rfl
@[simp] theorem Tryz.info126 : Tryz.prog.info? 126 = some Tryz.t126 := by kernel_rfl
@[simp] theorem Tryz.tsize126 : Tryz.t126.size = 65 := by kernel_rfl
@[simp] theorem Tryz.tbytes126 : Tryz.t126.bytes = 65 := by kernel_rfl
@[simp] theorem Tryz.builder126 : builderTy Tryz.prog 126 = false := by kernel_rfl
@[simp] theorem Tryz.azero126 : azero Tryz.prog 126 = some (.agg [.int .u8 (0), .int .u8 (0), .int .u8 (0), .int .u8 (0), .int .u8 (0), .int .u8 (0), .int .u8 (0), .int .u8 (0), .int .u8 (0), .int .u8 (0), .int .u8 (0), .int .u8 (0), .int .u8 (0), .int .u8 (0), .int .u8 (0), .int .u8 (0), .int .u8 (0), .int .u8 (0), .int .u8 (0), .int .u8 (0), .int .u8 (0), .int .u8 (0), .int .u8 (0), .int .u8 (0), .int .u8 (0), .int .u8 (0), .int .u8 (0), .int .u8 (0), .int .u8 (0), .int .u8 (0), .int .u8 (0), .int .u8 (0), .int .u8 (0), .int .u8 (0), .int .u8 (0), .int .u8 (0), .int .u8 (0), .int .u8 (0), .int .u8 (0), .int .u8 (0), .int .u8 (0), .int .u8 (0), .int .u8 (0), .int .u8 (0), .int .u8 (0), .int .u8 (0), .int .u8 (0), .int .u8 (0), .int .u8 (0), .int .u8 (0), .int .u8 (0), .int .u8 (0), .int .u8 (0), .int .u8 (0), .int .u8 (0), .int .u8 (0), .int .u8 (0), .int .u8 (0), .int .u8 (0), .int .u8 (0), .int .u8 (0), .int .u8 (0), .int .u8 (0), .int .u8 (0), .int .u8 (0)]) := by kernel_rfl
@[simp] theorem Tryz.asize127 : asize Tryz.prog 127 = some 1 := by kernel_rfl
@[simp] theorem Tryz.info127 : Tryz.prog.info? 127 = some Tryz.t127 := by kernel_rfl
@[simp] theorem Tryz.tsize127 : Tryz.t127.size = 1 := by kernel_rfl
@[simp] theorem Tryz.tbytes127 : Tryz.t127.bytes = 8 := by kernel_rfl
@[simp] theorem Tryz.builder127 : builderTy Tryz.prog 127 = false := by kernel_rfl
@[simp] theorem Tryz.azero127 : azero Tryz.prog 127 = some (.int .u64 (0)) := by kernel_rfl
@[simp] theorem Tryz.asize128 : asize Tryz.prog 128 = some 1 := by kernel_rfl
@[simp] theorem Tryz.info128 : Tryz.prog.info? 128 = some Tryz.t128 := by kernel_rfl
@[simp] theorem Tryz.tsize128 : Tryz.t128.size = 1 := by kernel_rfl
@[simp] theorem Tryz.tbytes128 : Tryz.t128.bytes = 8 := by kernel_rfl
@[simp] theorem Tryz.builder128 : builderTy Tryz.prog 128 = false := by kernel_rfl
@[simp] theorem Tryz.azero128 : azero Tryz.prog 128 = some (.nilfunc) := by kernel_rfl
@[simp] theorem Tryz.asize133 : asize Tryz.prog 133 = some 1 := by kernel_rfl
@[simp] theorem Tryz.info133 : Tryz.prog.info? 133 = some Tryz.t133 := by kernel_rfl
@[simp] theorem Tryz.tsize133 : Tryz.t133.size = 1 := by kernel_rfl
@[simp] theorem Tryz.tbytes133 : Tryz.t133.bytes = 8 := by kernel_rfl
@[simp] theorem Tryz.builder133 : builderTy Tryz.prog 133 = false := by kernel_rfl
@[simp] theorem Tryz.azero133 : azero Tryz.prog 133 = some (.int .i64 (0)) := by kernel_rfl
@[simp] theorem Tryz.asize134 : asize Tryz.prog 134 = some 1 := by kernel_rfl
@[simp] theorem Tryz.info134 : Tryz.prog.info? 134 = some Tryz.t134 := by kernel_rfl
@[simp] theorem Tryz.tsize134 : Tryz.t134.size = 1 := by kernel_rfl
@[simp] theorem Tryz.tbytes134 : Tryz.t134.bytes = 0 := by kernel_rfl
@[simp] theorem Tryz.builder134 : builderTy Tryz.prog 134 = false := by kernel_rfl
@[simp] theorem Tryz.azero134 : azero Tryz.prog 134 = some (.tuple [.int .u64 (0), .niliface]) := by kernel_rfl
@[simp] theorem Tryz.asize136 : asize Tryz.prog 136 = some 1 := by kernel_rfl
@[simp] theorem Tryz.info136 : Tryz.prog.info? 136 = some Tryz.t136 := by kernel_rfl
@[simp] theorem Tryz.tsize136 : Tryz.t136.size = 1 := by kernel_rfl
@[simp] theorem Tryz.tbytes136 : Tryz.t136.bytes = 8 := by kernel_rfl
@[simp] theorem Tryz.builder136 : builderTy Tryz.prog 136 = false := by kernel_rfl
@[simp] theorem Tryz.azero136 : azero Tryz.prog 136 = some (.nilptr) := by kernel_rfl
@[simp] theorem Tryz.asize146 : asize Tryz.prog 146 = some 3 := by kernel_rfl
@[simp] theorem Tryz.info146 : Tryz.prog.info? 146 = some Tryz.t146 := by kernel_rfl
@[simp] theorem Tryz.tsize146 : Tryz.t146.size = 3 := by kernel_rfl
@[simp] theorem Tryz.tbytes146 : Tryz.t146.bytes = 48 := by kernel_rfl
@[simp] theorem Tryz.builder146 : builderTy Tryz.prog 146 = false := by kernel_rfl
@[simp] theorem Tryz.azero146 : azero Tryz.prog 146 = some (.agg [.str [], .str [], .niliface]) := by kernel_rfl
@[simp] theorem Tryz.asize147 : asize Tryz.prog 147 = some 3 := by kernel_rfl
@[simp] theorem Tryz.info147 : Tryz.prog.info? 147 = some Tryz.t147 := by kernel_rfl
@[simp] theorem Tryz.tsize147 : Tryz.t147.size = 3 := by kernel_rfl
@[simp] theorem Tryz.tbytes147 : Tryz.t147.bytes = 48 := by kernel_rfl
@[simp] theorem Tryz.builder147 : builderTy Tryz.prog 147 = false := by kernel_rfl
@[simp] theorem Tryz.azero147 : azero Tryz.prog 147 = some (.agg [.str [], .str [], .niliface]) := by kernel_rfl
@[simp] theorem Tryz.asize150 : asize Tryz.prog 150 = some 32 := by kernel_rfl
@[simp] theorem Tryz.info150 : Tryz.prog.info? 150 = some Tryz.t150 := by kernel_rfl
@[simp] theorem Tryz.tsize150 : Tryz.t150.size = 32 := by kernel_rfl
@[simp] theorem Tryz.tbytes150 : Tryz.t150.bytes = 32 := by kernel_rfl
@[simp] theorem Tryz.builder150 : builderTy Tryz.prog 150 = false := by kernel_rfl
@[simp] theorem Tryz.azero150 : azero Tryz.prog 150 = some (.agg [.int .u8 (0), .int .u8 (0), .int .u8 (0), .int .u8 (0), .int .u8 (0), .int .u8 (0), .int .u8 (0), .int .u8 (0), .int .u8 (0), .int .u8 (0), .int .u8 (0), .int .u8 (0), .int .u8 (0), .int .u8 (0), .int .u8 (0), .int .u8 (0), .int .u8 (0), .int .u8 (0), .int .u8 (0), .int .u8 (0), .int .u8 (0), .int .u8 (0), .int .u8 (0), .int .u8 (0), .int .u8 (0), .int .u8 (0), .int .u8 (0), .int .u8 (0), .int .u8 (0), .int .u8 (0), .int .u8 (0), .int .u8 (0)]) := by kernel_rfl
@[simp] theorem Tryz.asize151 : asize Tryz.prog 151 = some 64 := by kernel_rfl
@[simp] theorem Tryz.info151 : Tryz.prog.info? 151 = some Tryz.t151 := by kernel_rfl
@[simp] theorem Tryz.tsize151 : Tryz.t151.size = 64 := by kernel_rfl
@[simp] theorem Tryz.tbytes151 : Tryz.t151.bytes = 64 := by kernel_rfl
@[simp] theorem Tryz.builder151 : builderTy Tryz.prog 151 = false := by kernel_rfl
@[simp] theorem Tryz.azero151 : azero Tryz.prog 151 = some (.agg [.int .u8 (0), .int .u8 (0), .int .u8 (0), .int .u8 (0), .int .u8 (0), .int .u8 (0), .int .u8 (0), .int .u8 (0), .int .u8 (0), .int .u8 (0), .int .u8 (0), .int .u8 (0), .int .u8 (0), .int .u8 (0), .int .u8 (0), .int .u8 (0), .int .u8 (0), .int .u8 (0), .int .u8 (0), .int .u8 (0), .int .u8 (0), .int .u8 (0), .int .u8 (0), .int .u8 (0), .int .u8 (0), .int .u8 (0), .int .u8 (0), .int .u8 (0), .int .u8 (0), .int .u8 (0), .int .u8 (0), .int .u8 (0), .int .u8 (0), .int .u8 (0), .int .u8 (0), .int .u8 (0), .int .u8 (0), .int .u8 (0), .int .u8 (0), .int .u8 (0), .int .u8 (0), .int .u8 (0), .int .u8 (0), .int .u8 (0), .int .u8 (0), .int .u8 (0), .int .u8 (0), .int .u8 (0), .int .u8 (0), .int .u8 (0), .int .u8 (0), .int .u8 (0), .int .u8 (0), .int .u8 (0), .int .u8 (0), .int .u8 (0), .int .u8 (0), .int .u8 (0), .int .u8 (0), .int .u8 (0), .int .u8 (0), .int .u8 (0), .int .u8 (0), .int .u8 (0)]) := by kernel_rfl
@[simp] theorem Tryz.asize162 : asize Tryz.prog 162 = some 4 := by kernel_rfl
@[simp] theorem Tryz.info162 : Tryz.prog.info? 162 = some Tryz.t162 := by kernel_rfl
@[simp] theorem Tryz.tsize162 : Tryz.t162.size = 4 := by kernel_rfl
@[simp] theorem Tryz.tbytes162 : Tryz.t162.bytes = 40 := by kernel_rfl
@[simp] theorem Tryz.builder162 : builderTy Tryz.prog 162 = false := by kernel_rfl
@[simp] theorem Tryz.azero162 : azero Tryz.prog 162 = some (.agg [.nilptr, .nilptr, .nilptr, .str []]) := by kernel_rfl
@[simp] theorem Tryz.asize163 : asize Tryz.prog 163 = some 4 := by kernel_rfl
@[simp] theorem Tryz.info163 : Tryz.prog.info? 163 = some Tryz.t163 := by kernel_rfl
@[simp] theorem Tryz.tsize163 : Tryz.t163.size = 4 := by kernel_rfl
@[simp] theorem Tryz.tbytes163 : Tryz.t163.bytes = 40 := by kernel_rfl
@[simp] theorem Tryz.builder163 : builderTy Tryz.prog 163 = false := by kernel_rfl
@[simp] theorem Tryz.azero163 : azero Tryz.prog 163 = some (.agg [.nilptr, .nilptr, .nilptr, .str []]) := by kernel_rfl
@[simp] theorem Tryz.asize164 : asize Tryz.prog 164 = some 0 := by kernel_rfl
@[simp] theorem Tryz.info164 : Tryz.prog.info? 164 = some Tryz.t164 := by kernel_rfl
@[simp] theorem Tryz.tsize164 : Tryz.t164.size = 0 := by kernel_rfl
@[simp] theorem Tryz.tbytes164 : Tryz.t164.bytes = 0 := by kernel_rfl
@[simp] theorem Tryz.builder164 : builderTy Tryz.prog 164 = false := by kernel_rfl
@[simp] theorem Tryz.azero164 : azero Tryz.prog 164 = some (.agg []) := by kernel_rfl
@[simp] theorem Tryz.asize165 : asize Tryz.prog 165 = some 0 := by kernel_rfl
@[simp] theorem Tryz.info165 : Tryz.prog.info? 165 = some Tryz.t165 := by kernel_rfl
@[simp] theorem Tryz.tsize165 : Tryz.t165.size = 0 := by kernel_rfl
@[simp] theorem Tryz.tbytes165 : Tryz.t165.bytes = 0 := by kernel_rfl
@[simp] theorem Tryz.builder165 : builderTy Tryz.prog 165 = false := by kernel_rfl
@[simp] theorem Tryz.azero165 : azero Tryz.prog 165 = some (.agg []) := by kernel_rfl
@[simp] theorem Tryz.asize166 : asize Tryz.prog 166 = some 0 := by kernel_rfl
@[simp] theorem Tryz.info166 : Tryz.prog.info? 166 = some Tryz.t166 := by kernel_rfl
@[simp] theorem Tryz.tsize166 : Tryz.t166.size = 0 := by kernel_rfl
@[simp] theorem Tryz.tbytes166 : Tryz.t166.bytes = 0 := by kernel_rfl
@[simp] theorem Tryz.builder166 : builderTy Tryz.prog 166 = false := by kernel_rfl
@[simp] theorem Tryz.azero166 : azero Tryz.prog 166 = some (.agg []) := by kernel_rfl
@[simp] theorem Tryz.asize168 : asize Tryz.prog 168 = some 1 := by kernel_rfl
@[simp] theorem Tryz.info168 : Tryz.prog.info? 168 = some Tryz.t168 := by kernel_rfl
@[simp] theorem Tryz.tsize168 : Tryz.t168.size = 1 := by kernel_rfl
@[simp] theorem Tryz.tbytes168 : Tryz.t168.bytes = 1 := by kernel_rfl
@[simp] theorem Tryz.builder168 : builderTy Tryz.prog 168 = false := by kernel_rfl
@[simp] theorem Tryz.azero168 : azero Tryz.prog 168 = some (.int .u8 (0)) := by kernel_rfl
@[simp] theorem Tryz.asize169 : asize Tryz.prog 169 = some 1 := by kernel_rfl
@[simp] theorem Tryz.info169 : Tryz.prog.info? 169 = some Tryz.t169 := by kernel_rfl
@[simp] theorem Tryz.tsize169 : Tryz.t169.size = 1 := by kernel_rfl
@[simp] theorem Tryz.tbytes169 : Tryz.t169.bytes = 1 := by kernel_rfl
@[simp] theorem Tryz.builder169 : builderTy Tryz.prog 169 = false := by kernel_rfl
@[simp] theorem Tryz.azero169 : azero Tryz.prog 169 = some (.int .u8 (0)) := by kernel_rfl
@[simp] theorem Tryz.asize170 : asize Tryz.prog 170 = some 1 := by kernel_rfl
@[simp] theorem Tryz.info170 : Tryz.prog.info? 170 = some Tryz.t170 := by kernel_rfl
@[simp] theorem Tryz.tsize170 : Tryz.t170.size = 1 := by kernel_rfl
@[simp] theorem Tryz.tbytes170 : Tryz.t170.bytes = 8 := by kernel_rfl
@[simp] theorem Tryz.builder170 : builderTy Tryz.prog 170 = false := by kernel_rfl
@[simp] theorem Tryz.azero170 : azero Tryz.prog 170 = some (.nilfunc) := by kernel_rfl
@[simp] theorem Tryz.asize171 : asize Tryz.prog 171 = some 1 := by kernel_rfl
@[simp] theorem Tryz.info171 : Tryz.prog.info? 171 = some Tryz.t171 := by kernel_rfl
@[simp] theorem Tryz.tsize171 : Tryz.t171.size = 1 := by kernel_rfl
@[simp] theorem Tryz.tbytes171 : Tryz.t171.bytes = 4 := by kernel_rfl
@[simp] theorem Tryz.builder171 : builderTy Tryz.prog 171 = false := by kernel_rfl
@[simp] theorem Tryz.azero171 : azero Tryz.prog 171 = some (.int .i32 (0)) := by kernel_rfl
@[simp] theorem Tryz.asize172 : asize Tryz.prog 172 = some 1 := by kernel_rfl
@[simp] theorem Tryz.info172 : Tryz.prog.info? 172 = some Tryz.t172 := by kernel_rfl
@[simp] theorem Tryz.tsize172 : Tryz.t172.size = 1 := by kernel_rfl
@[simp] theorem Tryz.tbytes172 : Tryz.t172.bytes = 4 := by kernel_rfl
@[simp] theorem Tryz.builder172 : builderTy Tryz.prog 172 = false := by kernel_rfl
@[simp] theorem Tryz.azero172 : azero Tryz.prog 172 = some (.int .i32 (0)) := by kernel_rfl
@[simp] theorem Tryz.asize173 : asize Tryz.prog 173 = some 11 := by kernel_rfl
@[simp] theorem Tryz.info173 : Tryz.prog.info? 173 = some Tryz.t173 := by kernel_rfl
@[simp] theorem Tryz.tsize173 : Tryz.t173.size = 11 := by kernel_rfl
@[simp] theorem Tryz.tbytes173 : Tryz.t173.bytes = 48 := by kernel_rfl
@[simp] theorem Tryz.builder173 : builderTy Tryz.prog 173 = false := by kernel_rfl
@[simp] theorem Tryz.azero173 : azero Tryz.prog 173 = some (.agg [.int .u64 (0), .int .u64 (0), .int .u32 (0), .int .u8 (0), .int .u8 (0), .int .u8 (0), .int .u8 (0), .nilfunc, .nilptr, .int .i32 (0), .int .i32 (0)]) := by kernel_rfl
@[simp] theorem Tryz.asize174 : asize Tryz.prog 174 = some 11 := by kernel_rfl
@[simp] theorem Tryz.info174 : Tryz.prog.info? 174 = some Tryz.t174 := by kernel_rfl
@[simp] theorem Tryz.tsize174 : Tryz.t174.size = 11 := by kernel_rfl
@[simp] theorem Tryz.tbytes174 : Tryz.t174.bytes = 48 := by kernel_rfl
@[simp] theorem Tryz.builder174 : builderTy Tryz.prog 174 = false := by kernel_rfl
@[simp] theorem Tryz.azero174 : azero Tryz.prog 174 = some (.agg [.int .u64 (0), .int .u64 (0), .int .u32 (0), .int .u8 (0), .int .u8 (0), .int .u8 (0), .int .u8 (0), .nilfunc, .nilptr, .int .i32 (0), .int .i32 (0)]) := by kernel_rfl
end Go.Proofs

namespace Go.Proofs.YtbakbednenfofaaGreatDoor
open Go Go.Abs Go.Lex
set_option linter.unusedSimpArgs false
variable {G : Nat → Option AV}
theorem hasPrefixL (s p : List UInt8) (H : AHeap) : Does Tryz.prog G 59 [.str s, .str p] H fun r H' => r = .bool (p.isPrefixOf s) ∧ H' = H := by
  refine does_f Tryz.call59 Tryz.func59 rfl (by simp [Tryz.f59]) ?_
  by_cases h : p.length ≤ s.length
  · have h1 : (p.length : Int) ≤ s.length := by omega
    simp [h, h1]
    rw [Bool.eq_iff_iff, List.isPrefixOf_iff_prefix, List.prefix_iff_eq_take]
    simp
    exact eq_comm
  · have h1 : ¬ (p.length : Int) ≤ s.length := by omega
    have h2 : p.isPrefixOf s = false := by
      rw [Bool.eq_false_iff]
      intro e
      exact h (List.isPrefixOf_iff_prefix.1 e).length_le
    simp [h, h1, h2]
theorem hasPrefix (s p : List UInt8) (H : AHeap) : Does Tryz.prog G 43 [.str s, .str p] H fun r H' => r = .bool (p.isPrefixOf s) ∧ H' = H := by
  refine does_f Tryz.call43 Tryz.func43 rfl (by simp [Tryz.f43]) ?_
  simp
  refine does_use (hasPrefixL s p H) ?_
  rintro _ _ ⟨rfl, rfl⟩
  simp
theorem asciiContains (H : AHeap) (i : Nat) (cs : List AV) (b : UInt8) (v : Bool) (h : H.get i = some (.cells cs)) (hl : cs.length = 256) (hv : cs[b.toNat]? = some (.bool v)) :
    Does Tryz.prog G 91 [.ptr i 0, .int .u8 b.toNat] H fun r H' => r = .bool v ∧ H' = H := by
  have hb := b.toNat_lt
  have h1 : (b.toNat : Int) < 256 := by omega
  have h2 : b.toNat ≤ 256 := by omega
  refine does_f Tryz.call91 Tryz.func91 rfl (by simp [Tryz.f91]) ?_
  simp [h, hl, hv, h1, h2]
def asciiCells (l : List UInt8) : List AV := (List.range 256).map fun k => .bool (l.any fun b => b.toNat == k)
@[simp] theorem asciiCells_length (l : List UInt8) : (asciiCells l).length = 256 := by simp [asciiCells]
theorem asciiCells_get (l : List UInt8) (b : UInt8) : (asciiCells l)[b.toNat]? = some (.bool (l.contains b)) := by
  have hb := b.toNat_lt
  simp only [asciiCells, List.getElem?_map]
  rw [List.getElem?_range hb]
  simp only [Option.map_some, Option.some.injEq, AV.bool.injEq]
  rw [Bool.eq_iff_iff]
  simp only [List.any_eq_true, beq_iff_eq, List.contains_iff_mem]
  constructor
  · rintro ⟨x, hx, e⟩
    rw [← UInt8.toNat_inj.1 e]; exact hx
  · intro h; exact ⟨b, h, rfl⟩
theorem asciiCells_set (l : List UInt8) (b : UInt8) : (asciiCells l).set b.toNat (.bool true) = asciiCells (l ++ [b]) := by
  apply List.ext_getElem?
  intro k
  rw [List.getElem?_set]
  simp only [asciiCells, List.getElem?_map, List.length_map, List.length_range]
  by_cases hk : k < 256
  · rw [List.getElem?_range hk]
    by_cases e : b.toNat = k
    · subst e; simp [hk]
    · rw [if_neg e]
      simp [e]
  · have : (List.range 256)[k]? = none := List.getElem?_eq_none (by simp; omega)
    rw [this]
    split <;> simp
    omega
end Go.Proofs.YtbakbednenfofaaGreatDoor

namespace Go.Abs
open Go
theorem aws_loop {X : Ctx} {c : Code} {Q : Post} {T : Nat → AV} {H : AHeap} (I : Nat → (Nat → AV) → AHeap → Prop) (n : Nat) (h0 : I n T H)
    (round : ∀ n T H, I n T H → @AWf ⟨X⟩ ⟨c⟩ ⟨QThen (fun T' H' => ∃ m, m < n ∧ I m T' H') Q⟩ ⟨T⟩ H) : @AWs ⟨X⟩ ⟨.loop c⟩ ⟨Q⟩ ⟨T⟩ H :=
  aw_loop I n h0 fun n T H h => awf_of (round n T H h)
theorem aw_wf {P : Program} {G : Nat → Option AV} {N : Nat} {c : Code} {Q : Post} {T : Nat → AV} {H : AHeap} (h : H.Wf → (∀ t, (T t).idLt H.next = true) → AW P G N c Q T H) : AW P G N c Q T H := by
  intro E0 a w hG hs
  obtain ⟨⟨E, hx, hR, hT⟩, hd⟩ := hs
  exact h hR.wf (fun t => VRel.idLt hR.dom (hT.rel t)) E0 a w hG ⟨⟨E, hx, hR, hT⟩, hd⟩
theorem aws_loopw {X : Ctx} {c : Code} {Q : Post} {T : Nat → AV} {H : AHeap} (I : Nat → (Nat → AV) → AHeap → Prop) (n : Nat) (h0 : I n T H)
    (round : ∀ n T H, I n T H → H.Wf → (∀ t, (T t).idLt H.next = true) → @AWf ⟨X⟩ ⟨c⟩ ⟨QThen (fun T' H' => ∃ m, m < n ∧ I m T' H') Q⟩ ⟨T⟩ H) : @AWs ⟨X⟩ ⟨.loop c⟩ ⟨Q⟩ ⟨T⟩ H :=
  aw_loop I n h0 fun n T H h => aw_wf fun hw ht => awf_of (round n T H h hw ht)
theorem over_empty (H : AHeap) : (AHeap.empty 0).over H = H := by
  refine AHeap.ext' rfl fun i => ?_
  show (match H.get i with | some x => some x | none => none) = H.get i
  cases H.get i <;> rfl
theorem Does.closed {P : Program} {f : FuncId} {b : Bool} (h : Does P (fun _ => none) f [] (AHeap.empty 0) fun r _ => r = .bool b) (H : AHeap) : Does P (fun _ => none) f [] H fun r H' => r = .bool b ∧ H' = H := by
  refine ⟨fun E w vs hR hG hv => ?_⟩
  have hR' : Rel E ((AHeap.empty 0).over H) w := by rw [over_empty]; exact hR
  have ha : Rel (E.aside H w 0) (AHeap.empty 0) w := Rel.aside hR' (fun _ _ _ => Nat.zero_le _) (fun i x hi => by simp [AHeap.empty] at hi) (fun i x hi => by simp [AHeap.empty] at hi)
  cases hv
  refine (h.run _ w [] ha (fun _ _ h => by simp at h) .nil).mono ?_
  rintro v w' ⟨r, H', E', rfl, hx, hvr, hR2⟩
  cases hvr
  refine ⟨.bool b, H, E, ⟨rfl, rfl⟩, Ext.refl E, .bool b, ?_⟩
  refine ⟨hR2.os.trans hx.os, hR2.out.trans hx.out, fun B o hB => hR2.K _ _ (hx.K B o hB), fun B o hB => ?_, hR.KF, hR.dom, fun i x hi => ?_, hR.inj⟩
  · refine hR2.F _ _ ?_
    rw [hx.F]
    simp only [Env.aside, hB]
  · obtain ⟨p, ob, g1, g2, g3, g4, g5⟩ := hR.live i x hi
    refine ⟨p, ob, g1, g2, g3, hR2.F _ _ ?_, g5⟩
    rw [hx.F]
    simp only [Env.aside, g3]
    rw [if_pos ⟨i, x, p, hi, g1, rfl⟩]
    exact g4
end Go.Abs

namespace Go.Proofs.YtbakbednenfofaaGreatDoor
open Go Go.Abs Go.Lex
set_option linter.unusedSimpArgs false
variable {G : Nat → Option AV}
@[simp] theorem take_ascii (l : List UInt8) : List.take 256 (asciiCells l) = asciiCells l := by rw [List.take_of_length_le]; simp
@[simp] theorem zeroSet : azero Tryz.prog 113 = some (.agg (asciiCells [])) := by kernel_rfl
@[simp] theorem drop_ascii (l : List UInt8) : List.drop 256 (asciiCells l) = [] := by rw [List.drop_of_length_le]; simp
@[simp] theorem ascii_scalar (l : List UInt8) : (∀ x ∈ asciiCells l, x.scalar = true) = True := by
  simp only [eq_iff_iff, iff_true]
  intro x hx
  simp only [asciiCells, List.mem_map] at hx
  obtain ⟨k, _, rfl⟩ := hx
  rfl
theorem ascii_splice (l : List UInt8) (c : UInt8) : List.take c.toNat (asciiCells l) ++ AV.bool true :: List.drop (c.toNat + 1) (asciiCells l) = asciiCells (l ++ [c]) := by
  have hc := c.toNat_lt
  rw [← asciiCells_set, List.set_eq_take_append_cons_drop, if_pos (by rw [asciiCells_length]; omega)]
theorem makeSet (chars : List UInt8) (hc : ∀ b ∈ chars, b.toNat < 128) (hl : chars.length ≤ 1000000) (H : AHeap) : Does Tryz.prog G 75 [.str chars] H fun r H' => r = .tuple [.agg (asciiCells chars), .bool true] ∧ H' = H.push (.cells (asciiCells chars)) := by
  refine does_f Tryz.call75 Tryz.func75 rfl (by simp [Tryz.f75]) ?_
  simp
  refine aws_loop (fun m T' H' => ∃ a b, chars = a ++ b ∧ m = b.length ∧ T' 0 = .str chars ∧ T' 2 = .ptr H.next 0 ∧ T' 4 = .int .i64 a.length ∧ H' = H.push (.cells (asciiCells a))) chars.length ⟨[], chars, rfl, rfl, by simp⟩ ?_
  rintro m T H' ⟨a, b, rfl, rfl, h0, h2, h4, rfl⟩
  cases b with
  | nil => simp [h0, h2, h4]
  | cons c b =>
    have hlt : (a.length : Int) < a.length + (b.length + 1) := by omega
    have hc1 : c.toNat < 128 := hc c (by simp)
    have hc2 : ¬ (128 : Int) ≤ c.toNat := by omega
    have hc3 : (c.toNat : Int) < 256 := by omega
    have hc4 : c.toNat ≤ 255 := by omega
    have hw : IntKind.i64.wrap ((a.length : Int) + 1) = a.length + 1 := by
      simp only [List.length_append, List.length_cons] at hl
      exact IntWalk.i64_in _ (by omega)
    simp [h0, h2, h4, hlt, hc2, hc3, hc4, ascii_splice, hw]
    refine ⟨b.length, by omega, a ++ [c], b, by simp, rfl, ?_⟩
    simp
theorem trimASCII (s set : List UInt8) (p : UInt8 → Bool) (hp : ∀ b, set.contains b = p b) (i : Nat) (H : AHeap) (h : H.get i = some (.cells (asciiCells set))) : Does Tryz.prog G 76 [.str s, .ptr i 0] H fun r H' => r = .str (s.dropWhile p) ∧ H' = H := by
  refine does_f Tryz.call76 Tryz.func76 rfl (by simp [Tryz.f76]) ?_
  simp
  refine aws_loop (fun m T' H' => ∃ q : List UInt8, s.dropWhile p = q.dropWhile p ∧ m = q.length ∧ T' 0 = .str q ∧ T' 1 = .ptr i 0 ∧ H' = H) s.length ⟨s, rfl, rfl, by simp⟩ ?_
  rintro m T H' ⟨q, hq, rfl, h0, h1, rfl⟩
  rw [hq]
  cases q with
  | nil => simp [h0, h1]
  | cons b q =>
    have hl : (0 : Int) < q.length + 1 := by omega
    have hl2 : (1 : Int) ≤ q.length + 1 := by omega
    simp [h0, h1, hl]
    refine does_use (asciiContains H' i _ b _ h (by simp) (asciiCells_get set b)) ?_
    rintro _ _ ⟨rfl, rfl⟩
    rw [hp]
    cases hb : p b with
    | true =>
      simp [h0, h1, hb, hl, hl2]
    | false => simp [h0, h1, hb]
theorem trimLeft (s set : List UInt8) (p : UInt8 → Bool) (hp : ∀ b, set.contains b = p b) (hc : ∀ b ∈ set, b.toNat < 128) (hl : set.length ≤ 1000000) (h2 : 2 ≤ set.length) (H : AHeap) : Does Tryz.prog G 58 [.str s, .str set] H fun r H' => r = .str (s.dropWhile p) ∧ H' = H := by
  refine Does.forgot (R := fun r H' => r = .str (s.dropWhile p) ∧ ∀ j x, H.get j = some x → H'.get j = some x) ?_ ?_
  · refine Does.wf Tryz.call58 fun hw _ => ?_
    have old : ∀ j x, H.get j = some x → j ≠ H.next ∧ j ≠ H.next + 1 := fun j x hj => by have := next_lt hw hj; omega
    refine does_f Tryz.call58 Tryz.func58 rfl (by simp [Tryz.f58]) ?_
    have hne : set ≠ [] := fun e => by subst e; simp at h2
    have hn1 : ¬ (set.length : Int) = 1 := by omega
    cases hs : s with
    | nil => simp
    | cons b q =>
      rw [← hs]
      have hs1 : s.isEmpty = false := by rw [hs]; rfl
      have hs2 : set.isEmpty = false := by cases set <;> simp_all
      simp [hs1, hs2, hn1]
      refine does_use (makeSet set hc hl H) ?_
      rintro _ _ ⟨rfl, rfl⟩
      simp
      refine does_use (trimASCII s set p hp _ _ (by simp)) ?_
      rintro _ _ ⟨rfl, rfl⟩
      simp
      intro j x hj
      simp [hj, old j x hj]
  · rintro hw ha r H1 ⟨rfl, h⟩
    exact ⟨h, rfl, rfl, rfl⟩
theorem isIdx : IsIdx Tryz.prog 78 := ⟨⟨Tryz.f78, Tryz.func78, by kernel_rfl, by kernel_rfl, by kernel_rfl, by kernel_rfl⟩⟩
def idxB (s : List UInt8) (c : UInt8) : Int := match s.findIdx? (fun b => b == c) with
  | some i => i
  | none => -1
theorem idxB_eq (c : UInt8) : ∀ s : List UInt8, Go.Lib.indexByte s c = idxB s c
  | [] => rfl
  | b :: s => by
    rw [indexByte_cases, idxB_eq c s]
    unfold idxB
    rw [List.findIdx?_cons]
    by_cases h : b = c
    · subst h; simp
    · simp only [h, if_false, beq_iff_eq]
      cases hf : List.findIdx? (fun b => b == c) s with
      | none => simp
      | some i =>
        simp only [Option.map_some]
        rw [if_neg (by omega)]
        omega
theorem indexByteL (s : List UInt8) (c : UInt8) (H : AHeap) : Does Tryz.prog G 60 [.str s, .int .u8 c.toNat] H fun r H' => r = .int .i64 (idxB s c) ∧ H' = H := by
  refine does_f Tryz.call60 Tryz.func60 rfl (by simp [Tryz.f60]) ?_
  simp
  refine does_use (idx_does isIdx s c.toNat H) ?_
  rintro _ _ ⟨rfl, rfl⟩
  have e : ((c.toNat : Int).toNat).toUInt8 = c := by simp
  rw [e, idxB_eq]
  simp
theorem indexByte (s : List UInt8) (c : UInt8) (H : AHeap) : Does Tryz.prog G 44 [.str s, .int .u8 c.toNat] H fun r H' => r = .int .i64 (idxB s c) ∧ H' = H := by
  refine does_f Tryz.call44 Tryz.func44 rfl (by simp [Tryz.f44]) ?_
  simp
  refine does_use (indexByteL s c H) ?_
  rintro _ _ ⟨rfl, rfl⟩
  simp
theorem index1L (s : List UInt8) (c : UInt8) (H : AHeap) : Does Tryz.prog G 79 [.str s, .str [c]] H fun r H' => r = .int .i64 (idxB s c) ∧ H' = H := by
  refine does_f Tryz.call79 Tryz.func79 rfl (by simp [Tryz.f79]) ?_
  by_cases h : [c] = s
  · subst h
    simp [idxB]
  · have h1 : ([c] == s) = false := by simpa using h
    simp [h1]
    refine does_use (indexByteL s c H) ?_
    rintro _ _ ⟨rfl, rfl⟩
    simp
theorem contains1 (s : List UInt8) (c : UInt8) (H : AHeap) : Does Tryz.prog G 45 [.str s, .str [c]] H fun r H' => r = .bool (s.contains c) ∧ H' = H := by
  have hk : ∀ H : AHeap, Does Tryz.prog G 61 [.str s, .str [c]] H fun r H' => r = .int .i64 (idxB s c) ∧ H' = H := by
    intro H
    refine does_f Tryz.call61 Tryz.func61 rfl (by simp [Tryz.f61]) ?_
    simp
    refine does_use (index1L s c H) ?_
    rintro _ _ ⟨rfl, rfl⟩
    simp
  refine does_f Tryz.call45 Tryz.func45 rfl (by simp [Tryz.f45]) ?_
  simp
  refine does_use (hk H) ?_
  rintro _ _ ⟨rfl, rfl⟩
  simp
  unfold idxB
  cases hf : s.findIdx? (fun b => b == c) with
  | none =>
    rw [List.findIdx?_eq_none_iff] at hf
    have : c ∉ s := fun h => by have := hf c h; simp at this
    simp [this]
  | some i =>
    have h := List.findIdx?_eq_some_iff_getElem.1 hf
    obtain ⟨hi, h1, _⟩ := h
    have : c ∈ s := by
      have e : s[i] = c := by simpa using h1
      rw [← e]; exact List.getElem_mem hi
    simp [this]
end Go.Proofs.YtbakbednenfofaaGreatDoor

namespace Go.Proofs.YtbakbednenfofaaGreatDoor
open Go Go.Abs Go.Lex
set_option linter.unusedSimpArgs false
variable {G : Nat → Option AV}
theorem sliceIndex (l : List Bs) (s : Bs) (i c : Nat) (op : Bool) (H : AHeap) (hi : H.get i = some (.cells (l.map .str))) (hl : l.length ≤ 1000000) :
    Does Tryz.prog G 80 [.sl i 0 1 l.length c op, .str s] H fun r H' => (if l.contains s then ∃ k : Nat, r = .int .i64 k else r = .int .i64 (-1)) ∧ H' = H := by
  refine does_f Tryz.call80 Tryz.func80 rfl (by simp [Tryz.f80]) ?_
  simp
  refine aws_loop (fun m T' H' => ∃ a b, l = a ++ b ∧ m = b.length ∧ s ∉ a ∧ T' 0 = .sl i 0 1 l.length c op ∧ T' 1 = .str s ∧ T' 7 = .int .i64 l.length ∧ T' 8 = .int .i64 a.length ∧ H' = H) l.length ⟨[], l, rfl, rfl, by simp, by simp⟩ ?_
  rintro m T H' ⟨a, b, rfl, rfl, hn, h0, h1, h7, h8, rfl⟩
  simp only [List.length_append] at hl h0 h7
  cases b with
  | nil => simp [h0, h1, h7, h8, hn]
  | cons t b =>
    simp only [List.length_cons] at hl
    have hlt : (a.length : Int) < a.length + (b.length + 1) := by omega
    have hle : a.length ≤ a.length + (b.length + 1) := by omega
    have hw : IntKind.i64.wrap ((a.length : Int) + 1) = a.length + 1 := IntWalk.i64_in _ (by omega)
    have hd : List.drop a.length (List.map AV.str a) = [] := by rw [List.drop_of_length_le]; simp
    by_cases e : s = t
    · subst e
      simp [h0, h1, h7, h8, hi, hlt, hle, hw, hd]
      exact ⟨a.length, rfl⟩
    · have e1 : (s == t) = false := by simpa using e
      simp [h0, h1, h7, h8, hi, hlt, hle, hw, hd, e1]
      exact ⟨b.length, by omega, a ++ [t], b, by simp, rfl, by simp [hn, e], by simp⟩
theorem sliceContains (l : List Bs) (s : Bs) (i c : Nat) (op : Bool) (H : AHeap) (hi : H.get i = some (.cells (l.map .str))) (hl : l.length ≤ 1000000) :
    Does Tryz.prog G 62 [.sl i 0 1 l.length c op, .str s] H fun r H' => r = .bool (l.contains s) ∧ H' = H := by
  refine does_f Tryz.call62 Tryz.func62 rfl (by simp [Tryz.f62]) ?_
  simp
  refine does_use (sliceIndex l s i c op H hi hl) ?_
  rintro r _ ⟨hr, rfl⟩
  cases hc : l.contains s with
  | true =>
    rw [hc, if_pos rfl] at hr
    obtain ⟨k, rfl⟩ := hr
    simp
  | false =>
    rw [hc] at hr
    simp only [Bool.false_eq_true, if_false] at hr
    subst hr
    simp
set_option maxRecDepth 100000 in
theorem kept_does (s : Bs) (H : AHeap) : Does Tryz.prog G 46 [.str s] H fun r H' => r = .bool (kept s) ∧ H' = H := by
  refine Does.forgot (R := fun r H' => r = .bool (kept s) ∧ ∀ j x, H.get j = some x → H'.get j = some x) ?_ ?_
  · refine Does.wf Tryz.call46 fun hw _ => ?_
    have old : ∀ j x, H.get j = some x → j ≠ H.next := fun j x hj => by have := next_lt hw hj; omega
    refine does_f Tryz.call46 Tryz.func46 rfl (by simp [Tryz.f46]) ?_
    simp
    refine does_use (sliceContains keptWords s H.next 21 false (H.push (.cells (keptWords.map .str))) (by simp) (by decide)) ?_
    rintro _ _ ⟨rfl, rfl⟩
    simp [kept]
    intro j x hj
    simp [hj, old j x hj]
  · rintro hw ha r H1 ⟨rfl, h⟩
    exact ⟨h, rfl, rfl, rfl⟩
theorem while_does (s set : Bs) (p : UInt8 → Bool) (hp : ∀ b, set.contains b = p b) (hc : ∀ b ∈ set, b.toNat < 128) (hl : set.length ≤ 1000000) (h2 : 2 ≤ set.length) (hs : s.length ≤ 1000000) (H : AHeap) :
    Does Tryz.prog G 42 [.str s, .str set] H fun r H' => r = .int .i64 (s.takeWhile p).length ∧ H' = H := by
  refine does_f Tryz.call42 Tryz.func42 rfl (by simp [Tryz.f42]) ?_
  simp
  refine does_use (trimLeft s set p hp hc hl h2 H) ?_
  rintro _ _ ⟨rfl, rfl⟩
  have e : s.length = (s.takeWhile p).length + (s.dropWhile p).length := by rw [← List.length_append, List.takeWhile_append_dropWhile]
  have hw : IntKind.i64.wrap ((s.length : Int) - (s.dropWhile p).length) = (s.takeWhile p).length := by
    rw [IntWalk.i64_in _ (by omega)]; omega
  simp [hw]
set_option maxRecDepth 100000 in
theorem sign_does (s : Bs) (H : AHeap) : Does Tryz.prog G 48 [.str s] H fun r H' => (match signOf s with | some t => r = .tuple [.agg [.int .i64 4, .str t, .int .i64 0, .int .i64 0], .bool true] | none => r = .tuple [.agg [.int .i64 0, .str [], .int .i64 0, .int .i64 0], .bool false]) ∧ H' = H := by
  refine Does.forgot (R := fun r H' => (match signOf s with | some t => r = .tuple [.agg [.int .i64 4, .str t, .int .i64 0, .int .i64 0], .bool true] | none => r = .tuple [.agg [.int .i64 0, .str [], .int .i64 0, .int .i64 0], .bool false]) ∧ ∀ j x, H.get j = some x → H'.get j = some x) ?_ ?_
  · refine Does.wf Tryz.call48 fun hw _ => ?_
    have old : ∀ j x, H.get j = some x → j ≠ H.next ∧ j ≠ H.next + 1 := fun j x hj => by have := next_lt hw hj; omega
    have hkeep : ∀ x y, ∀ j z, H.get j = some z → ((H.push x).push y).get j = some z := fun x y j z hj => by simp [hj, old j z hj]
    refine does_f Tryz.call48 Tryz.func48 rfl (by simp [Tryz.f48]) ?_
    simp
    refine aws_loop (fun m T' H' => ∃ a b, signs = a ++ b ∧ m = b.length ∧ a.find? (fun x => x.isPrefixOf s) = none ∧ T' 0 = .str s ∧ T' 2 = .ptr H.next 0 ∧ T' 6 = .sl (H.next + 1) 0 1 16 16 false ∧ T' 7 = .int .i64 16 ∧ T' 8 = .int .i64 a.length ∧ T' 3 = .bool false ∧
      H' = (H.push (.cells [.int .i64 0, .str [], .int .i64 0, .int .i64 0])).push (.cells (signs.map .str))) 16 ⟨[], signs, rfl, rfl, rfl, by simp [signs]⟩ ?_
    rintro m T H' ⟨a, b, hab, rfl, hn, h0, h2, h6, h7, h8, h3, rfl⟩
    have hlen : a.length + b.length = 16 := by rw [← List.length_append, ← hab]; rfl
    cases b with
    | nil =>
      have ha : a.length = 16 := by simpa using hlen
      have hs : signOf s = none := by
        unfold signOf
        rw [hab, List.append_nil]; exact hn
      simp [h0, h2, h6, h7, h8, ha, hs]
      intro j x hj
      simp [hj, old j x hj]
    | cons t b =>
      simp only [List.length_cons] at hlen
      have hlt : (a.length : Int) < 16 := by omega
      have hlt2 : a.length ≤ 16 := by omega
      have hlt3 : a.length < 16 := by omega
      have hw1 : IntKind.i64.wrap ((a.length : Int) + 1) = a.length + 1 := IntWalk.i64_in _ (by omega)
      have hd : List.drop a.length (List.map AV.str signs) = .str t :: b.map .str := by
        rw [hab, List.map_append, List.drop_left' (by simp)]; rfl
      have hsl : signs.length = 16 := rfl
      simp [h0, h2, h6, h7, h8, hlt, hlt2, hlt3, hd, hsl]
      refine does_use (hasPrefix s t _) ?_
      rintro _ _ ⟨rfl, rfl⟩
      cases hp : t.isPrefixOf s with
      | true =>
        have hs : signOf s = some t := by
          unfold signOf
          rw [hab, List.find?_append, hn]
          simp [hp]
        simp [h0, h2, h6, h7, h8, hs]
        intro j x hj
        simp [hj, old j x hj]
      | false =>
        simp [h0, h2, h6, h7, h8, hw1]
        refine ⟨b.length, by omega, a ++ [t], b, by simp [hab], rfl, ?_, ?_⟩
        · rw [List.find?_eq_none] at hn
          intro x hx
          simp only [List.mem_append, List.mem_singleton] at hx
          rcases hx with hx | rfl
          · have := hn x hx
            rw [← List.isPrefixOf_iff_prefix]; simpa using this
          · rw [← List.isPrefixOf_iff_prefix, hp]; simp
        · simp [h3]
  · rintro hw ha r H1 ⟨hr, h⟩
    refine ⟨h, ?_, hr, rfl⟩
    cases hs : signOf s <;> rw [hs] at hr <;> subst hr <;> rfl
end Go.Proofs.YtbakbednenfofaaGreatDoor

namespace Go.Proofs.YtbakbednenfofaaGreatDoor
open Go Go.Abs Go.Lex
set_option linter.unusedSimpArgs false
variable {G : Nat → Option AV}
theorem drop_takeWhile (p : UInt8 → Bool) : ∀ s : Bs, s.drop (s.takeWhile p).length = s.dropWhile p
  | [] => rfl
  | b :: s => by
    rw [List.takeWhile_cons, List.dropWhile_cons]
    split
    · simpa using drop_takeWhile p s
    · rfl
theorem betw_line (s q : Bs) (h : s.dropWhile isBlank = 45 :: 45 :: q) : betw s = betw (q.dropWhile fun b => b != 10) := by
  rw [betw]
  split
  · rename_i q' h'
    rw [h] at h'
    simp only [List.cons.injEq, true_and] at h'
    rw [h']
  · rename_i h'
    exact absurd h (h' q)
theorem betw_word (s : Bs) (h : ([45, 45] : Bs).isPrefixOf (s.dropWhile isBlank) = false) : betw s = s.dropWhile isBlank := by
  rw [betw]
  split
  · rename_i q hq
    rw [hq] at h
    simp [List.isPrefixOf] at h
  · rfl
theorem betw_nil : betw [] = [] := betw_word [] rfl
@[simp] theorem take_drop_all {α : Type} (l : List α) (n : Nat) : List.take (l.length - n) (l.drop n) = l.drop n := by rw [List.take_of_length_le]; simp
theorem idxB_none {s : Bs} {c : UInt8} (h : s.findIdx? (fun b => b == c) = none) : s.dropWhile (fun b => b != c) = [] := by
  rw [List.findIdx?_eq_none_iff] at h
  induction s with
  | nil => rfl
  | cons b s ih =>
    rw [List.dropWhile_cons]
    have := h b (by simp)
    have e : (b != c) = true := by simp only [bne, this]; rfl
    rw [if_pos e]
    exact ih fun x hx => h x (by simp [hx])
theorem idxB_some {s : Bs} {c : UInt8} {i : Nat} (h : s.findIdx? (fun b => b == c) = some i) : s.dropWhile (fun b => b != c) = s.drop i ∧ i < s.length := by
  induction s generalizing i with
  | nil => simp at h
  | cons b s ih =>
    rw [List.findIdx?_cons] at h
    rw [List.dropWhile_cons]
    by_cases e : b = c
    · subst e
      simp at h
      subst h
      simp
    · have e1 : (b == c) = false := by simpa using e
      have e2 : (b != c) = true := by simp [bne, e1]
      rw [e1] at h
      simp only [Bool.false_eq_true, if_false, Option.map_eq_some_iff] at h
      obtain ⟨j, hj, rfl⟩ := h
      obtain ⟨h1, h2⟩ := ih hj
      rw [if_pos e2]
      exact ⟨by simpa using h1, by simp; omega⟩
theorem blankSet (b : UInt8) : ([32, 9, 10, 13] : Bs).contains b = isBlank b := by
  rw [Bool.eq_iff_iff]
  simp [isBlank, or_assoc]
theorem between_does (s : Bs) (hl : s.length ≤ 1000000) (H : AHeap) : Does Tryz.prog G 27 [.str s] H fun r H' => (∃ n : Nat, r = .int .i64 n ∧ n ≤ s.length ∧ s.drop n = betw s) ∧ H' = H := by
  refine does_f Tryz.call27 Tryz.func27 rfl (by simp [Tryz.f27]) ?_
  simp
  refine aws_loop (fun m T' H' => ∃ n : Nat, n ≤ s.length ∧ m = s.length - n ∧ betw (s.drop n) = betw s ∧ T' 0 = .str s ∧ T' 3 = .int .i64 n ∧ H' = H) s.length ⟨0, by omega, by omega, rfl, by simp⟩ ?_
  rintro m T H' ⟨n, hn, rfl, hb, h0, h3, rfl⟩
  have hn1 : (n : Int) ≤ s.length := by omega
  simp [h0, h3, hn, hn1]
  have hdl : (s.drop n).length = s.length - n := by simp
  refine does_use (while_does (s.drop n) _ isBlank blankSet (by decide) (by decide) (by decide) (by omega) _) ?_
  rintro _ _ ⟨rfl, rfl⟩
  have htl : ((s.drop n).takeWhile isBlank).length ≤ s.length - n := by
    rw [← hdl]; exact (List.takeWhile_prefix isBlank).length_le
  have hdd : s.drop (n + ((s.drop n).takeWhile isBlank).length) = (s.drop n).dropWhile isBlank := by
    rw [← List.drop_drop, drop_takeWhile]
  obtain ⟨k, hk⟩ : ∃ k, k = ((s.drop n).takeWhile isBlank).length := ⟨_, rfl⟩
  rw [← hk] at htl hdd ⊢
  obtain ⟨j, hj⟩ : ∃ j, j = n + k := ⟨_, rfl⟩
  have hw1 : IntKind.i64.wrap ((n : Int) + k) = (j : Int) := by rw [IntWalk.i64_in _ (by omega)]; omega
  have hk1 : (j : Int) ≤ s.length := by omega
  have hk2 : j ≤ s.length := by omega
  rw [← hj] at hdd
  simp [h0, h3, hw1, hk1, hk2]
  refine does_use (hasPrefix (s.drop j) [45, 45] _) ?_
  rintro _ _ ⟨rfl, rfl⟩
  cases hp : ([45, 45] : Bs).isPrefixOf (s.drop j) with
  | false =>
    simp [h0, h3]
    refine ⟨j, rfl, hk2, ?_⟩
    rw [← hb, betw_word _ (by rw [← hdd]; exact hp), hdd]
  | true =>
    simp [h0, h3, hk1, hk2]
    refine does_use (indexByte (s.drop j) 10 _) ?_
    rintro _ _ ⟨rfl, rfl⟩
    obtain ⟨q, hq⟩ : ∃ q, s.drop j = 45 :: 45 :: q := by
      rw [List.isPrefixOf_iff_prefix] at hp
      obtain ⟨t, ht⟩ := hp
      exact ⟨t, ht.symm⟩
    have hbq : betw s = betw ((s.drop j).dropWhile fun b => b != 10) := by
      rw [← hb, betw_line _ q (by rw [← hdd]; exact hq), hq]
      rfl
    unfold idxB
    cases hf : (s.drop j).findIdx? (fun b => b == 10) with
    | none =>
      simp [h0, h3]
      refine ⟨s.length, rfl, Nat.le_refl _, ?_⟩
      rw [hbq, idxB_none hf, betw_nil]; simp
    | some i =>
      obtain ⟨g1, g2⟩ := idxB_some hf
      have g3 : ¬ ((i : Int) < 0) := by omega
      have hi2 : 2 ≤ i := by
        rw [hq] at hf
        rw [List.findIdx?_cons, List.findIdx?_cons] at hf
        simp at hf
        omega
      simp only [List.length_drop] at g2
      have hw2 : IntKind.i64.wrap ((j : Int) + i) = ((j + i : Nat) : Int) := by rw [IntWalk.i64_in _ (by omega)]; omega
      simp [h0, h3, g3, hw2]
      refine ⟨s.length - (j + i), by omega, j + i, by omega, rfl, ?_, by omega⟩
      rw [hbq, g1, List.drop_drop]
end Go.Proofs.YtbakbednenfofaaGreatDoor

namespace Go.Proofs.YtbakbednenfofaaGreatDoor
open Go Go.Abs Go.Lex
set_option linter.unusedSimpArgs false
variable {G : Nat → Option AV}
theorem numVal_snoc (s : Bs) (b : UInt8) : numVal (s ++ [b]) = 10 * numVal s + (b.toNat - 48) := by simp [numVal]
theorem numVal_ge (a : Bs) : ∀ b : Bs, numVal a ≤ numVal (a ++ b) := by
  intro b
  induction b generalizing a with
  | nil => simp
  | cons c b ih =>
    have := ih (a ++ [c])
    rw [numVal_snoc, List.append_assoc] at this
    simp only [List.singleton_append] at this
    omega
theorem strCs_append' (a b : Bs) : strCs (a ++ b) = strCs a ++ strCs b := by simp [strCs]
theorem wrap_u64 (n : Int) (h0 : 0 ≤ n) (h1 : n < 18446744073709551616) : IntKind.u64.wrap n = n := by
  unfold IntKind.wrap
  simp only [IntKind.signed, IntKind.bits, Bool.false_and, Bool.false_eq_true, if_false]
  exact Int.emod_eq_of_lt h0 (by omega)
theorem wrap_u64' (n : Int) (h0 : 18446744073709551616 ≤ n) (h1 : n < 36893488147419103232) : IntKind.u64.wrap n = n - 18446744073709551616 := by
  unfold IntKind.wrap
  simp only [IntKind.signed, IntKind.bits, Bool.false_and, Bool.false_eq_true, if_false]
  omega
theorem wrap_u8 (n : Int) (h0 : 0 ≤ n) (h1 : n < 256) : IntKind.u8.wrap n = n := by
  unfold IntKind.wrap
  simp only [IntKind.signed, IntKind.bits, Bool.false_and, Bool.false_eq_true, if_false]
  exact Int.emod_eq_of_lt h0 (by omega)
@[simp] theorem concErr : Tryz.prog.concrete 133 = true := by kernel_rfl
@[simp] theorem concNum : Tryz.prog.concrete 136 = true := by kernel_rfl
def uintOf (s : Bs) : AV := if numVal s < 18446744073709551616 then .tuple [.int .u64 (numVal s), .niliface] else .tuple [.int .u64 18446744073709551615, .iface 133 (.int .i64 1)]
set_option maxRecDepth 100000 in
theorem parseUint (s : Bs) (hd : ∀ b ∈ s, isDigit b = true) (hs : s ≠ []) (hl : s.length ≤ 1000000) (H : AHeap) :
    Does Tryz.prog G 97 [.str s, .int .i64 10, .int .i64 64] H fun r H' => r = uintOf s ∧ H' = H := by
  refine Does.forgot (R := fun r H' => r = uintOf s ∧ ∀ j x, H.get j = some x → H'.get j = some x) ?_ ?_
  · refine Does.wf Tryz.call97 fun hw _ => ?_
    have old : ∀ j x, H.get j = some x → j ≠ H.next := fun j x hj => by have := next_lt hw hj; omega
    refine does_f Tryz.call97 Tryz.func97 rfl (by simp [Tryz.f97]) ?_
    have hs1 : s.isEmpty = false := by cases s <;> simp_all
    have e1 : IntKind.u64.wrap 64 = 64 := by decide
    have e2 : IntKind.u64.wrap (2 ^ min 64 IntKind.u64.bits) = 0 := by decide
    have e3 : IntKind.u64.wrap (-1) = 18446744073709551615 := by decide
    simp [hs1, e1, e2, e3]
    refine aws_loop (fun m T' H' => ∃ a b, s = a ++ b ∧ m = b.length ∧ numVal a < 18446744073709551616 ∧ T' 1 = .int .i64 10 ∧ T' 8 = .bool false ∧ T' 10 = .int .u64 1844674407370955162 ∧ T' 11 = .int .u64 18446744073709551615 ∧ T' 12 = .bool false ∧ T' 13 = .int .u64 (numVal a) ∧
      T' 99 = .sl H.next 0 1 s.length s.length true ∧ T' 100 = .int .i64 s.length ∧ T' 101 = .int .i64 a.length ∧ H' = H.push (.cells (strCs s))) s.length ⟨[], s, rfl, rfl, by decide, by simp [numVal, strCs]⟩ ?_
    rintro m T H' ⟨a, b, rfl, rfl, hv, h1, h8, h10, h11, h12, h13, h99, h100, h101, rfl⟩
    simp only [List.length_append] at hl h99 h100
    cases b with
    | nil =>
      simp [h1, h8, h10, h11, h12, h13, h99, h100, h101]
      refine ⟨?_, ?_⟩
      · simp [uintOf, hv]
      · intro j x hj
        simp [hj, old j x hj]
    | cons c b =>
      simp only [List.length_cons] at hl
      have hc := hd c (by simp)
      simp only [isDigit, Bool.and_eq_true, decide_eq_true_eq] at hc
      obtain ⟨hc1, hc2⟩ := hc
      obtain ⟨d, hdd⟩ : ∃ d, d = c.toNat - 48 := ⟨_, rfl⟩
      have hlt : (a.length : Int) < a.length + (b.length + 1) := by omega
      have hle : a.length ≤ a.length + (b.length + 1) := by omega
      have hw1 : IntKind.i64.wrap ((a.length : Int) + 1) = a.length + 1 := IntWalk.i64_in _ (by omega)
      have hdr : List.drop a.length (strCs (a ++ c :: b)) = .int .u8 c.toNat :: strCs b := by
        rw [strCs_append', List.drop_left' (by simp [strCs])]; rfl
      have hsl : (strCs (a ++ c :: b)).length = a.length + (b.length + 1) := by simp [strCs]
      have n1 : ¬ (c.toNat : Int) = 95 := by omega
      have n2 : (48 : Int) ≤ c.toNat := by omega
      have n3 : (c.toNat : Int) ≤ 57 := by omega
      have n4 : IntKind.u8.wrap ((c.toNat : Int) - 48) = d := by rw [wrap_u8 _ (by omega) (by omega)]; omega
      have n5 : IntKind.u8.wrap 10 = 10 := by decide
      have n6 : ¬ (10 : Int) ≤ d := by omega
      have n7 : IntKind.u64.wrap 10 = 10 := by decide
      have n8 : IntKind.u64.wrap (d : Int) = d := wrap_u64 _ (by omega) (by omega)
      have hn : numVal (a ++ [c]) = 10 * numVal a + d := by rw [numVal_snoc]; omega
      have hge := numVal_ge (a ++ [c]) b
      rw [List.append_assoc, List.singleton_append] at hge
      obtain ⟨v, hvv⟩ : ∃ v, v = numVal a := ⟨_, rfl⟩
      rw [← hvv] at hv h13 hn
      by_cases g1 : 1844674407370955162 ≤ v
      · have g1' : (1844674407370955162 : Int) ≤ v := by omega
        have hbig : ¬ numVal (a ++ c :: b) < 18446744073709551616 := by omega
        simp [h1, h8, h10, h11, h12, h13, h99, h100, h101, hlt, hle, hdr, hsl, n1, n2, n3, n4, n5, n6, n7, n8, g1']
        refine ⟨?_, ?_⟩
        · unfold uintOf; rw [if_neg hbig]
        · intro j x hj
          simp [hj, old j x hj]
      · have g1' : ¬ (1844674407370955162 : Int) ≤ v := by omega
        have m1 : IntKind.u64.wrap ((v : Int) * 10) = v * 10 := wrap_u64 _ (by omega) (by omega)
        by_cases g2 : 10 * v + d < 18446744073709551616
        · have m2 : IntKind.u64.wrap ((v : Int) * 10 + d) = v * 10 + d := wrap_u64 _ (by omega) (by omega)
          have m3 : ¬ ((v : Int) * 10 + d < v * 10) := by omega
          have m4 : ¬ ((18446744073709551615 : Int) < v * 10 + d) := by omega
          simp [h1, h8, h10, h11, h12, h13, h99, h100, h101, hlt, hle, hdr, hsl, n1, n2, n3, n4, n5, n6, n7, n8, g1', m1, m2, m3, m4, hw1]
          refine ⟨b.length, by omega, a ++ [c], b, by simp, rfl, by omega, ?_⟩
          simp [hn]
          omega
        · have m2 : IntKind.u64.wrap ((v : Int) * 10 + d) = v * 10 + d - 18446744073709551616 := wrap_u64' _ (by omega) (by omega)
          have m3 : ((v : Int) * 10 + d - 18446744073709551616 < v * 10) := by omega
          have hbig : ¬ numVal (a ++ c :: b) < 18446744073709551616 := by omega
          simp [h1, h8, h10, h11, h12, h13, h99, h100, h101, hlt, hle, hdr, hsl, n1, n2, n3, n4, n5, n6, n7, n8, g1', m1, m2, m3]
          refine ⟨?_, ?_⟩
          · unfold uintOf; rw [if_neg hbig]
          · intro j x hj
            simp [hj, old j x hj]
  · rintro hw ha r H1 ⟨rfl, h⟩
    refine ⟨h, ?_, rfl, rfl⟩
    unfold uintOf; split <;> rfl
end Go.Proofs.YtbakbednenfofaaGreatDoor

namespace Go.Proofs.YtbakbednenfofaaGreatDoor
open Go Go.Abs Go.Lex
set_option linter.unusedSimpArgs false
variable {G : Nat → Option AV}
theorem wrap_i64 (n : Int) (h0 : 0 ≤ n) (h1 : n < 9223372036854775808) : IntKind.i64.wrap n = n := IntWalk.i64_in _ (by omega)
def intOf (s : Bs) : AV := if numVal s < 9223372036854775808 then .tuple [.int .i64 (numVal s), .niliface] else .tuple [.int .i64 9223372036854775807, .iface 133 (.int .i64 1)]
set_option maxRecDepth 100000 in
theorem parseInt (s : Bs) (hd : ∀ b ∈ s, isDigit b = true) (hs : s ≠ []) (hl : s.length ≤ 1000000) (H : AHeap) :
    Does Tryz.prog G 81 [.str s, .int .i64 10, .int .i64 64] H fun r H' => r = intOf s ∧ H' = H := by
  refine does_f Tryz.call81 Tryz.func81 rfl (by simp [Tryz.f81]) ?_
  cases s with
  | nil => exact absurd rfl hs
  | cons c q =>
    have hc := hd c (by simp)
    simp only [isDigit, Bool.and_eq_true, decide_eq_true_eq] at hc
    have n1 : ¬ (c.toNat : Int) = 43 := by omega
    have n2 : ¬ (c.toNat : Int) = 45 := by omega
    have m1 : (0 : Int) < q.length + 1 := by omega
    simp [n1, n2, m1]
    refine does_use (parseUint (c :: q) hd hs hl H) ?_
    rintro _ _ ⟨rfl, rfl⟩
    have e1 : IntKind.u64.wrap 63 = 63 := by decide
    have e2 : IntKind.u64.wrap (2 ^ min 63 IntKind.u64.bits) = 9223372036854775808 := by decide
    have e3 : IntKind.u64.wrap 9223372036854775807 = 9223372036854775807 := by decide
    have e4 : IntKind.i64.wrap 9223372036854775807 = 9223372036854775807 := by decide
    have e5 : IntKind.i64.wrap 63 = 63 := by decide
    have e6 : Tryz.t133.comparable = true := by kernel_rfl
    obtain ⟨v, hv⟩ : ∃ v, v = numVal (c :: q) := ⟨_, rfl⟩
    unfold uintOf intOf
    rw [← hv]
    by_cases g1 : v < 9223372036854775808
    · have g2 : v < 18446744073709551616 := by omega
      have g3 : ¬ (9223372036854775808 : Int) ≤ v := by omega
      have g4 : IntKind.i64.wrap (v : Int) = v := wrap_i64 _ (by omega) (by omega)
      rw [if_pos g2, if_pos g1]
      simp [e1, e2, e3, e4, e5, e6, g3, g4]
    · rw [if_neg g1]
      by_cases g2 : v < 18446744073709551616
      · have g3 : (9223372036854775808 : Int) ≤ v := by omega
        rw [if_pos g2]
        simp [e1, e2, e3, e4, e5, e6, g3]
      · rw [if_neg g2]
        simp [e1, e2, e3, e4, e5, e6]
theorem mixedOrders : Tryz.prog.follows .mixedOrders = true := by kernel_rfl
def HasErr (G : Nat → Option AV) : Prop := ∃ t v, G 3 = some (.vptr [.iface t v])
set_option maxRecDepth 100000 in
theorem rangeError (s : Bs) (fn : Bs) (hl : s.length ≤ 1000000) (hG : HasErr G) (H : AHeap) : Does Tryz.prog G 99 [.str fn, .str s] H fun r H' => r = .ptr H.next 0 ∧ ∃ cs, H' = H.push (.cells cs) := by
  obtain ⟨et, ev, he⟩ := hG
  refine does_f Tryz.call99 Tryz.func99 rfl (by simp [Tryz.f99]) ?_
  simp
  refine aw_drawn [(3, 0), (3, 3)] ?_ ?_ ?_
  · exact mixedOrders
  · kernel_rfl
  intro es hes
  simp
  refine ⟨_, _, copy_does isCopy s (by omega) H, by simp, ?_⟩
  simp [he, rds, heapF]
  refine ⟨?_, _, rfl⟩
  subst hes
  exact ⟨by kernel_rfl, by kernel_rfl⟩
set_option maxRecDepth 100000 in
theorem toError (s : Bs) (fn : Bs) (hl : s.length ≤ 1000000) (hG : HasErr G) (H : AHeap) : Does Tryz.prog G 82 [.str fn, .str s, .int .i64 10, .int .i64 64, .iface 133 (.int .i64 1)] H fun r H' => r = .iface 136 (.ptr H.next 0) ∧ ∃ cs, H' = H.push (.cells cs) := by
  have e6 : Tryz.t133.comparable = true := by kernel_rfl
  refine does_f Tryz.call82 Tryz.func82 rfl (by simp [Tryz.f82]) ?_
  simp [e6]
  refine does_use (rangeError s fn hl hG H) ?_
  rintro _ _ ⟨rfl, cs, rfl⟩
  simp
  exact ⟨cs, rfl⟩
set_option maxRecDepth 100000 in
theorem parseInt' (s : Bs) (hd : ∀ b ∈ s, isDigit b = true) (hs : s ≠ []) (hl : s.length ≤ 1000000) (hG : HasErr G) (H : AHeap) :
    Does Tryz.prog G 63 [.str s, .int .i64 10, .int .i64 64] H fun r H' => (if numVal s < 9223372036854775808 then r = .tuple [.int .i64 (numVal s), .niliface] ∧ H' = H else r = .tuple [.int .i64 9223372036854775807, .iface 136 (.ptr H.next 0)] ∧ ∃ cs, H' = H.push (.cells cs)) := by
  refine does_f Tryz.call63 Tryz.func63 rfl (by simp [Tryz.f63]) ?_
  simp
  refine does_use (parseInt s hd hs hl H) ?_
  rintro _ _ ⟨rfl, rfl⟩
  unfold intOf
  by_cases h : numVal s < 9223372036854775808
  · rw [if_pos h]
    simp [h]
  · rw [if_neg h]
    simp [h]
    refine does_use (toError s _ hl hG _) ?_
    rintro _ _ ⟨rfl, cs, rfl⟩
    simp
    exact ⟨by omega, cs, rfl⟩
def numN (s : Bs) : Int := if numVal s < 9223372036854775808 then numVal s else 9223372036854775807
def numOk (s : Bs) : Bool := decide (numVal s < 9223372036854775808) && (decide (s.length = 1) || decide (s.head? ≠ some 48))
set_option maxRecDepth 100000 in
theorem number_does (s : Bs) (hd : ∀ b ∈ s, isDigit b = true) (hs : s ≠ []) (hl : s.length ≤ 1000000) (hG : HasErr G) (H : AHeap) :
    Does Tryz.prog G 47 [.str s] H fun r H' => r = .tuple [.agg [.int .i64 3, .str s, .int .i64 (numN s), .int .i64 0], .bool (numOk s)] ∧ H' = H := by
  refine Does.forgot (R := fun r H' => r = .tuple [.agg [.int .i64 3, .str s, .int .i64 (numN s), .int .i64 0], .bool (numOk s)] ∧ ∀ j x, H.get j = some x → H'.get j = some x) ?_ ?_
  · refine Does.wf Tryz.call47 fun hw _ => ?_
    have old : ∀ j x, H.get j = some x → j ≠ H.next ∧ j ≠ H.next + 1 := fun j x hj => by have := next_lt hw hj; omega
    refine does_f Tryz.call47 Tryz.func47 rfl (by simp [Tryz.f47]) ?_
    simp
    refine does_use (parseInt' s hd hs hl hG _) ?_
    rintro r H1 hr
    obtain ⟨c, q, rfl⟩ : ∃ c q, s = c :: q := by
      cases s with
      | nil => exact absurd rfl hs
      | cons c q => exact ⟨c, q, rfl⟩
    have h0 : (0 : Int) < q.length + 1 := by omega
    have hg : (if numVal (c :: q) < 9223372036854775808 then r = .tuple [.int .i64 (numVal (c :: q)), .niliface] else ∃ i, r = .tuple [.int .i64 9223372036854775807, .iface 136 (.ptr i 0)]) ∧ H1.get H.next = some (.cells [.int .i64 0, .str [], .int .i64 0, .int .i64 0]) ∧ ∀ j x, H.get j = some x → H1.get j = some x := by
      by_cases h : numVal (c :: q) < 9223372036854775808
      · rw [if_pos h] at hr ⊢
        obtain ⟨rfl, rfl⟩ := hr
        exact ⟨rfl, by simp, fun j x hj => by simp [hj, old j x hj]⟩
      · rw [if_neg h] at hr ⊢
        obtain ⟨rfl, cs, rfl⟩ := hr
        exact ⟨⟨_, rfl⟩, by simp, fun j x hj => by simp [hj, old j x hj]⟩
    clear hr
    obtain ⟨hr, hf, hk⟩ := hg
    have fin : ∀ j x, H.get j = some x → ∀ cs, (H1.set H.next (.cells cs)).get j = some x := fun j x hj cs => by
      simp only [AHeap.get_set]
      rw [if_neg (old j x hj).1]; exact hk j x hj
    by_cases h : numVal (c :: q) < 9223372036854775808
    · rw [if_pos h] at hr
      subst hr
      simp
      refine aw_drawn [] mixedOrders (by kernel_rfl) ?_
      intro es hes
      by_cases hq : q = []
      · subst hq
        simp [hf, rds]
        refine ⟨?_, ?_, fun j x hj => ?_⟩
        · subst hes
          exact ⟨by kernel_rfl, by kernel_rfl⟩
        · simp [numN, numOk, h]
        · simp [old j x hj, hk j x hj]
      · have hq0 : q.length ≠ 0 := by simpa using hq
        have hq1 : ¬ ((q.length : Int) + 1 = 1) := by omega
        have hq2 : ((c.toNat : Int) = 48) ↔ c = 48 := by
          constructor
          · intro e
            have e1 : c.toNat = (48 : UInt8).toNat := by simpa using (by omega : c.toNat = 48)
            exact UInt8.toNat_inj.1 e1
          · rintro rfl; rfl
        simp [hf, rds, hq, hq1, h0]
        refine ⟨?_, ?_, fun j x hj => ?_⟩
        · subst hes
          exact ⟨by kernel_rfl, by kernel_rfl⟩
        · have hq3 : ((c.toNat : Int) != 48) = !decide (c = 48) := by
            rw [Bool.eq_iff_iff]
            simp [hq2]
          simp [numN, numOk, h, hq, hq3]
        · simp [old j x hj, hk j x hj]
    · rw [if_neg h] at hr
      obtain ⟨i, rfl⟩ := hr
      simp
      refine aw_drawn [] mixedOrders (by kernel_rfl) ?_
      intro es hes
      simp [hf, rds]
      refine ⟨?_, ?_, fun j x hj => ?_⟩
      · subst hes
        exact ⟨by kernel_rfl, by kernel_rfl⟩
      · simp [numN, numOk, h]
      · simp [old j x hj, hk j x hj]
  · rintro hw ha r H1 ⟨rfl, h⟩
    exact ⟨h, rfl, rfl, rfl⟩
end Go.Proofs.YtbakbednenfofaaGreatDoor

namespace Go.Proofs.YtbakbednenfofaaGreatDoor
open Go Go.Abs Go.Lex
set_option linter.unusedSimpArgs false
variable {G : Nat → Option AV}
def lettersL : Bs := [97,98,99,100,101,102,103,104,105,106,107,108,109,110,111,112,113,114,115,116,117,118,119,120,121,122]
def digitsL : Bs := [48,49,50,51,52,53,54,55,56,57]
def namesL : Bs := [97,98,99,100,101,102,103,104,105,106,107,108,109,110,111,112,113,114,115,116,117,118,119,120,121,122,48,49,50,51,52,53,54,55,56,57,95]
theorem byAll (p q : UInt8 → Bool) (h : ∀ n : Fin 256, p (UInt8.ofNat n.val) = q (UInt8.ofNat n.val)) (b : UInt8) : p b = q b := by
  have := h ⟨b.toNat, b.toNat_lt⟩
  simpa using this
theorem letters_eq (b : UInt8) : lettersL.contains b = isLetter b := byAll _ _ (by decide +kernel) b
theorem digits_eq (b : UInt8) : digitsL.contains b = isDigit b := byAll _ _ (by decide +kernel) b
theorem names_eq (b : UInt8) : namesL.contains b = isNamec b := byAll _ _ (by decide +kernel) b
theorem take_takeWhile (p : UInt8 → Bool) (s : Bs) : s.take (s.takeWhile p).length = s.takeWhile p := by
  have := List.takeWhile_prefix p (l := s)
  rw [List.prefix_iff_eq_take] at this
  exact this.symm
def wdCells (w : Wd) (i : Nat) : List AV := [.int .i64 w.kind, .str w.text, .int .i64 w.n, .int .i64 i]
def WordIs (s : Bs) (r : AV) : Prop := match wordS s with
  | some w => r = .tuple [.agg (wdCells w 0), .bool true]
  | none => ∃ k t n, r = .tuple [.agg [.int .i64 k, .str t, .int .i64 n, .int .i64 0], .bool false]
set_option maxRecDepth 100000 in
theorem word_does (c : UInt8) (q : Bs) (hl : (c :: q).length ≤ 1000000) (hG : HasErr G) (H : AHeap) : Does Tryz.prog G 28 [.str (c :: q)] H fun r H' => WordIs (c :: q) r ∧ H' = H := by
  refine Does.forgot (R := fun r H' => WordIs (c :: q) r ∧ ∀ j x, H.get j = some x → H'.get j = some x) ?_ ?_
  · refine Does.wf Tryz.call28 fun hw _ => ?_
    have old : ∀ j x, H.get j = some x → j ≠ H.next ∧ j ≠ H.next + 1 := fun j x hj => by have := next_lt hw hj; omega
    refine does_f Tryz.call28 Tryz.func28 rfl (by simp [Tryz.f28]) ?_
    have m1 : (1 : Int) ≤ q.length + 1 := by omega
    simp [m1]
    refine does_use (contains1 lettersL c _) ?_
    rintro _ _ ⟨rfl, rfl⟩
    rw [letters_eq]
    cases hL : isLetter c with
    | true =>
      simp
      refine does_use (while_does (c :: q) namesL isNamec names_eq (by decide) (by decide) (by decide) hl _) ?_
      rintro _ _ ⟨rfl, rfl⟩
      have ht := take_takeWhile isNamec (c :: q)
      have hle : ((c :: q).takeWhile isNamec).length ≤ (c :: q).length := (List.takeWhile_prefix isNamec).length_le
      obtain ⟨t, htt⟩ : ∃ t, t = (c :: q).takeWhile isNamec := ⟨_, rfl⟩
      rw [← htt] at ht hle ⊢
      simp only [List.length_cons] at hle
      have hle' : (t.length : Int) ≤ q.length + 1 := by omega
      simp [hle, hle', ht]
      refine does_use (kept_does t _) ?_
      rintro _ _ ⟨rfl, rfl⟩
      cases hk : kept t with
      | true =>
        simp
        refine ⟨?_, ?_⟩
        · simp [WordIs, wordS, hL, ← htt, hk, wdCells]
        · intro j x hj
          simp [hj, old j x hj]
      | false =>
        simp
        refine ⟨?_, ?_⟩
        · by_cases h24 : t.length ≤ 24
          · have : (t.length : Int) ≤ 24 := by omega
            simp [WordIs, wordS, hL, ← htt, hk, wdCells, h24, this]
          · have : ¬ (t.length : Int) ≤ 24 := by omega
            simp [WordIs, wordS, hL, ← htt, hk, wdCells, h24, this]
        · intro j x hj
          simp [hj, old j x hj]
    | false =>
      simp
      refine does_use (contains1 digitsL c _) ?_
      rintro _ _ ⟨rfl, rfl⟩
      rw [digits_eq]
      cases hD : isDigit c with
      | true =>
        simp
        refine does_use (while_does (c :: q) digitsL isDigit digits_eq (by decide) (by decide) (by decide) hl _) ?_
        rintro _ _ ⟨rfl, rfl⟩
        have ht := take_takeWhile isDigit (c :: q)
        have hle : ((c :: q).takeWhile isDigit).length ≤ (c :: q).length := (List.takeWhile_prefix isDigit).length_le
        have hall : ∀ b ∈ (c :: q).takeWhile isDigit, isDigit b = true := fun b hb => List.all_eq_true.1 (List.all_takeWhile) b hb
        have hcons : (c :: q).takeWhile isDigit = c :: q.takeWhile isDigit := by rw [List.takeWhile_cons, if_pos hD]
        obtain ⟨t, htt⟩ : ∃ t, t = (c :: q).takeWhile isDigit := ⟨_, rfl⟩
        rw [← htt] at ht hle hall hcons ⊢
        simp only [List.length_cons] at hle hl
        have hle' : (t.length : Int) ≤ q.length + 1 := by omega
        simp [hle, hle', ht]
        refine does_use (number_does t hall (by rw [hcons]; simp) (by omega) hG _) ?_
        rintro _ _ ⟨rfl, rfl⟩
        simp
        refine ⟨?_, ?_⟩
        · have hh : t.head? = some c := by rw [hcons]; rfl
          unfold WordIs wordS numOk numN
          simp only [hL, hD, ← htt, hh]
          by_cases g1 : numVal t < 9223372036854775808
          · by_cases g2 : t.length = 1 ∨ c ≠ 48
            · rcases g2 with g2 | g2 <;> simp [g1, g2, wdCells]
            · simp only [not_or] at g2
              simp [g1, g2.1, Decidable.not_not.1 g2.2]
          · simp [g1]
        · intro j x hj
          simp [hj, old j x hj]
      | false =>
        simp
        refine does_use (sign_does (c :: q) _) ?_
        rintro r _ ⟨hr, rfl⟩
        cases hs : signOf (c :: q) with
        | some t =>
          rw [hs] at hr
          simp only at hr
          subst hr
          simp
          refine ⟨?_, ?_⟩
          · simp [WordIs, wordS, hL, hD, hs, wdCells]
          · intro j x hj
            simp [hj, old j x hj]
        | none =>
          rw [hs] at hr
          simp only at hr
          subst hr
          simp
          refine ⟨?_, ?_⟩
          · simp [WordIs, wordS, hL, hD, hs, wdCells]
          · intro j x hj
            simp [hj, old j x hj]
  · rintro hw ha r H1 ⟨hr, h⟩
    refine ⟨h, ?_, hr, rfl⟩
    unfold WordIs at hr
    split at hr
    · subst hr; rfl
    · obtain ⟨k, t, n, rfl⟩ := hr; rfl
end Go.Proofs.YtbakbednenfofaaGreatDoor

namespace Go.Proofs.YtbakbednenfofaaGreatDoor
open Go Go.Abs Go.Lex
set_option linter.unusedSimpArgs false
variable {G : Nat → Option AV}
def flatW : List (Nat × Wd) → List AV
  | [] => []
  | (i, w) :: l => wdCells w i ++ flatW l
theorem flatW_append (a b : List (Nat × Wd)) : flatW (a ++ b) = flatW a ++ flatW b := by
  induction a with
  | nil => rfl
  | cons x a ih => obtain ⟨i, w⟩ := x; simp [flatW, ih]
@[simp] theorem wdCells_length (w : Wd) (i : Nat) : (wdCells w i).length = 4 := rfl
@[simp] theorem flatW_length (l : List (Nat × Wd)) : (flatW l).length = l.length * 4 := by
  induction l with
  | nil => rfl
  | cons x l ih => obtain ⟨i, w⟩ := x; simp [flatW, ih]; omega
def cutAns (t : Bs) : AV := if 16384 < t.length then .tuple [.nilsl, .agg [.int .i64 2, .int .i64 t.length]] else match cutS t.length t with
  | .ok l => .tuple [.vsl (flatW l ++ [.int .i64 0, .str [], .int .i64 0, .int .i64 t.length]) (l.length + 1), .agg [.int .i64 0, .int .i64 0]]
  | .error e => .tuple [.nilsl, .agg [.int .i64 7, .int .i64 e]]
def Wrds (H : AHeap) (lo : Nat) (x : AV) (ws : List (Nat × Wd)) : Prop := (x = .nilsl ∧ ws = []) ∨ ∃ b, x = .sl b 0 4 ws.length ws.length true ∧ lo ≤ b ∧ H.get b = some (.cells (flatW ws))
def CutR (H : AHeap) (t : Bs) (r : AV) (H1 : AHeap) : Prop := (∀ j x, H.get j = some x → H1.get j = some x) ∧
  (if 16384 < t.length then r = .tuple [.nilsl, .agg [.int .i64 2, .int .i64 t.length]] else match cutS t.length t with
  | .ok l => ∃ b, H.next ≤ b ∧ r = .tuple [.sl b 0 4 (l.length + 1) (l.length + 1) true, .agg [.int .i64 0, .int .i64 0]] ∧ H1.get b = some (.cells (flatW l ++ [.int .i64 0, .str [], .int .i64 0, .int .i64 t.length]))
  | .error e => r = .tuple [.nilsl, .agg [.int .i64 7, .int .i64 e]])
theorem CutR.okEnd {H : AHeap} {t : Bs} {ws : List (Nat × Wd)} {H2 : AHeap} {b : Nat} (hL : ¬ 16384 < t.length) (hc : cutS t.length t = .ok ws) (hb : H.next ≤ b)
    (hg : H2.get b = some (.cells (flatW ws ++ [.int .i64 0, .str [], .int .i64 0, .int .i64 t.length]))) (hk : ∀ j x, H.get j = some x → H2.get j = some x) :
    CutR H t (.tuple [.sl b 0 4 (ws.length + 1) (ws.length + 1) true, .agg [.int .i64 0, .int .i64 0]]) H2 := by
  refine ⟨hk, ?_⟩
  rw [if_neg hL, hc]
  exact ⟨b, hb, rfl, hg⟩
theorem CutR.badEnd {H : AHeap} {t : Bs} {e : Nat} {H2 : AHeap} (hL : ¬ 16384 < t.length) (hc : cutS t.length t = .error e) (hk : ∀ j x, H.get j = some x → H2.get j = some x) :
    CutR H t (.tuple [.nilsl, .agg [.int .i64 7, .int .i64 e]]) H2 := by
  refine ⟨hk, ?_⟩
  rw [if_neg hL, hc]
set_option maxRecDepth 100000 in
theorem cut_live (t : Bs) (hG : HasErr G) (H : AHeap) (hbig : t.length < 9223372036854775808) : Does Tryz.prog G 11 [.str t] H (CutR H t) := by
  refine Does.wf Tryz.call11 fun hw _ => ?_
  have old : ∀ j x, H.get j = some x → j < H.next := fun j x hj => next_lt hw hj
  refine does_f Tryz.call11 Tryz.func11 rfl (by simp [Tryz.f11]) ?_
  by_cases hL : 16384 < t.length
  · have hL' : (16384 : Int) < t.length := by omega
    simp [hL']
    refine ⟨fun j x hj => ?_, by simp [hL]⟩
    have := old j x hj
    have h1 : j ≠ H.next := by omega
    simp [hj, h1]
  · have hL' : ¬ (16384 : Int) < t.length := by omega
    simp [hL']
    refine does_use (between_does t (by omega) _) ?_
    rintro _ _ ⟨⟨n, rfl, hn, hbn⟩, rfl⟩
    simp
    refine aws_loopw (fun m T' H' => ∃ (ws : List (Nat × Wd)) (rest : Bs) (n : Nat), cutS t.length t = aheadW ws (cutS t.length rest) ∧ n ≤ t.length ∧ t.drop n = betw rest ∧ m = t.length - n ∧ ws.length ≤ n ∧
      T' 0 = .str t ∧ T' 3 = .ptr H.next 0 ∧ T' 5 = .int .i64 n ∧ Wrds H' (H.next + 1) (T' 4) ws ∧ H'.get H.next = some (.cells [.int .i64 0, .int .i64 0]) ∧ (∀ j x, H.get j = some x → H'.get j = some x)) (t.length - n) ?_ ?_
    · refine ⟨[], t, n, ?_, hn, hbn, rfl, by simp, by simp, by simp, by simp, .inl ⟨by simp, rfl⟩, by simp, fun j x hj => ?_⟩
      · cases cutS t.length t <;> rfl
      · have := old j x hj
        have h1 : j ≠ H.next := by omega
        simp [hj, h1]
    rintro m T H1 ⟨ws, rest, n, hcut, hn, hbn, rfl, hws, h0, h3, h5, h4, hf, hkeep⟩ hw1 _
    have oldn : ∀ j x, H1.get j = some x → j < H1.next := fun j x hj => next_lt hw1 hj
    have hfn := oldn _ _ hf
    have hne : H.next ≠ H1.next := by omega
    have hne2 : H.next ≠ H1.next + 1 := by omega
    have hne3 : H.next ≠ H1.next + 1 + 1 := by omega
    have hgrow : ¬ (ws.length + 1 ≤ ws.length) := by omega
    have hws' : ws.length ≤ 16384 := by omega
    by_cases hend : n = t.length
    · subst hend
      have hnil : betw rest = [] := by rw [← hbn]; simp
      have hc : cutS t.length t = .ok ws := by rw [hcut, cutS_end hnil]; simp [aheadW]
      have hfin : ∀ j x, H.get j = some x → H1.get j = some x ∧ j ≠ H.next ∧ j ≠ H1.next ∧ j ≠ H1.next + 1 := fun j x hj => by
        have := old j x hj
        have := oldn j x (hkeep j x hj)
        exact ⟨hkeep j x hj, by omega, by omega, by omega⟩
      rcases h4 with ⟨h4, rfl⟩ | ⟨b, h4, hlo, hb⟩
      · simp [h0, h3, h4, h5, hf, hne, hne2, hne3]
        refine CutR.okEnd hL hc (by omega) (by simp [flatW, Ne.symm hne2]) fun j x hj => ?_
        obtain ⟨k1, k2, k3, k4⟩ := hfin j x hj
        simp [k1, k2, k3, k4]
      · have hbn' := oldn _ _ hb
        have hb1 : b ≠ H1.next := by omega
        have hb2 : H.next ≠ b := by omega
        have hl1 : (ws.length + 1) * 40 ≤ 140737488355328 := by omega
        have hl2 : ws.length ≤ 4611686018427387903 := by omega
        simp [h0, h3, h4, h5, hf, hne, hne2, hne3, hb, hb1, hb2, hgrow, hl1, hl2]
        have htk : List.take (ws.length * 4) (flatW ws) = flatW ws := by rw [List.take_of_length_le]; simp
        rw [htk]
        refine CutR.okEnd hL hc (by omega) (by simp [Ne.symm hne2]) fun j x hj => ?_
        obtain ⟨k1, k2, k3, k4⟩ := hfin j x hj
        have := old j x hj
        have k5 : j ≠ b := by omega
        simp [k1, k2, k3, k4, k5]
    · have hlt : (n : Int) < t.length := by omega
      have hn' : (n : Int) ≤ t.length := by omega
      obtain ⟨c, q, hcq⟩ : ∃ c q, t.drop n = c :: q := by
        cases h : t.drop n with
        | nil => rw [List.drop_eq_nil_iff] at h; omega
        | cons c q => exact ⟨c, q, rfl⟩
      have hlen : (c :: q).length = t.length - n := by rw [← hcq]; simp
      rw [hcq] at hbn
      have htk0 : List.take (t.length - n) (c :: q) = c :: q := by rw [List.take_of_length_le]; omega
      simp [h0, h3, h4, h5, hf, hlt, hn, hn', hcq, htk0]
      refine does_use (word_does c q (by omega) hG _) ?_
      rintro r H2 ⟨hr, e⟩
      subst e
      have hkeep2 : ∀ j x, H.get j = some x → H2.get j = some x ∧ j ≠ H.next ∧ j ≠ H2.next ∧ j ≠ H2.next + 1 ∧ j ≠ H2.next + 1 + 1 := fun j x hj => by
        have := old j x hj
        have := oldn j x (hkeep j x hj)
        exact ⟨hkeep j x hj, by omega, by omega, by omega, by omega⟩
      unfold WordIs at hr
      cases hwd : wordS (c :: q) with
      | none =>
        rw [hwd] at hr
        simp only at hr
        obtain ⟨k, tx, nn, rfl⟩ := hr
        have hc : cutS t.length t = .error n := by
          rw [hcut, cutS_bad hbn.symm hwd, hlen]
          simp only [aheadW]
          congr 1
          omega
        simp [h0, h3, h4, h5, hf, hne]
        refine CutR.badEnd hL hc fun j x hj => ?_
        obtain ⟨k1, k2, k3, k4, k5⟩ := hkeep2 j x hj
        simp [k1, k2, k3]
      | some w =>
        rw [hwd] at hr
        simp only at hr
        subst hr
        obtain ⟨hpre, htne⟩ := wordS_text hwd
        have hwl : w.text.length ≤ (c :: q).length := hpre.length_le
        have hwl0 : w.text.length ≠ 0 := by simpa using htne
        rw [hlen] at hwl
        have hw1 : IntKind.i64.wrap ((n : Int) + w.text.length) = ((n + w.text.length : Nat) : Int) := by rw [IntWalk.i64_in _ (by omega)]; omega
        have hn2 : ((n + w.text.length : Nat) : Int) ≤ t.length := by omega
        have hn3 : n + w.text.length ≤ t.length := by omega
        have hrest : t.drop (n + w.text.length) = (c :: q).drop w.text.length := by rw [← List.drop_drop, hcq]
        obtain ⟨n2, hn2'⟩ : ∃ n2, n2 = n + w.text.length := ⟨_, rfl⟩
        rw [← hn2'] at hw1 hn2 hn3 hrest
        have hcut2 : cutS t.length t = aheadW (ws ++ [(n, w)]) (cutS t.length (t.drop n2)) := by
          rw [hcut, cutS_word hbn.symm hwd, hrest, hlen]
          have e : t.length - (t.length - n) = n := by omega
          rw [e]
          cases cutS t.length ((c :: q).drop w.text.length) <;> simp [aheadW]
        rcases h4 with ⟨h4, rfl⟩ | ⟨b, h4, hlo, hb⟩
        · simp [h0, h3, h4, h5, hf, hne, hne2, hne3, wdCells, hw1, hn2, hn3]
          refine does_use (between_does (t.drop n2) (by simp; omega) _) ?_
          rintro _ _ ⟨⟨k, rfl, hk, hk2⟩, rfl⟩
          simp only [List.length_drop] at hk
          have hw2 : IntKind.i64.wrap ((n2 : Int) + k) = ((n2 + k : Nat) : Int) := by rw [IntWalk.i64_in _ (by omega)]; omega
          simp [h0, h3, h4, h5, hf, hne, hne2, hne3, hw2]
          refine ⟨t.length - (n2 + k), by omega, [(n, w)], t.drop n2, by simpa using hcut2, n2 + k, by omega, by rw [← List.drop_drop]; exact hk2, rfl, by simp; omega, by omega, .inr ⟨H2.next + 1 + 1, rfl, by omega, by simp [flatW, wdCells]⟩, fun j x hj => ?_⟩
          obtain ⟨k1, k2, k3, k4, k5⟩ := hkeep2 j x hj
          simp [k1, k3, k4, k5]
        · have hbn' := oldn _ _ hb
          have hb1 : b ≠ H2.next := by omega
          have hb2 : H.next ≠ b := by omega
          have hb3 : b ≠ H2.next + 1 := by omega
          have hl1 : (ws.length + 1) * 40 ≤ 140737488355328 := by omega
          have hl2 : ws.length ≤ 4611686018427387903 := by omega
          have hb4 : H2.next ≠ b := Ne.symm hb1
          have hb5 : H2.next ≠ H2.next + 1 + 1 := by omega
          have htk : List.take (ws.length * 4) (flatW ws) = flatW ws := by rw [List.take_of_length_le]; simp
          simp [h0, h3, h4, h5, hf, hne, hne2, hne3, wdCells, hw1, hn2, hn3, hb, hb1, hb2, hb3, hb4, hb5, hgrow, hl1, hl2, htk]
          refine does_use (between_does (t.drop n2) (by simp; omega) _) ?_
          rintro _ _ ⟨⟨k, rfl, hk, hk2⟩, rfl⟩
          simp only [List.length_drop] at hk
          have hw2 : IntKind.i64.wrap ((n2 : Int) + k) = ((n2 + k : Nat) : Int) := by rw [IntWalk.i64_in _ (by omega)]; omega
          simp [h0, h3, h4, h5, hf, hne, hne2, hne3, hw2]
          refine ⟨t.length - (n2 + k), by omega, ws ++ [(n, w)], t.drop n2, hcut2, n2 + k, by omega, by rw [← List.drop_drop]; exact hk2, rfl, by simp; omega, by omega, .inr ⟨H2.next + 1 + 1, by simp, by omega, by simp [flatW_append, flatW, wdCells]⟩, hb2, fun j x hj => ?_⟩
          obtain ⟨k1, k2, k3, k4, k5⟩ := hkeep2 j x hj
          have := old j x hj
          have k6 : j ≠ b := by omega
          simp [k1, k3, k4, k5, k6]
theorem flatW_lt (n : Nat) : ∀ l : List (Nat × Wd), AV.allLt n (flatW l) = true
  | [] => rfl
  | (i, w) :: l => by simp [flatW, wdCells, AV.allLt, AV.idLt, flatW_lt n l]
theorem allLt_app (n : Nat) (a b : List AV) : AV.allLt n (a ++ b) = (AV.allLt n a && AV.allLt n b) := AV.allLt_append a b
theorem cut_does (t : Bs) (hG : HasErr G) (H : AHeap) (hbig : t.length < 9223372036854775808) : Does Tryz.prog G 11 [.str t] H fun r H' => r = cutAns t ∧ H' = H := by
  by_cases hL : 16384 < t.length
  · refine Does.forgot (cut_live t hG H hbig) ?_
    rintro hw ha r H1 ⟨hk, hr⟩
    rw [if_pos hL] at hr
    subst hr
    exact ⟨hk, rfl, by simp [cutAns, hL], rfl⟩
  · cases hc : cutS t.length t with
    | error e =>
      refine Does.forgot (cut_live t hG H hbig) ?_
      rintro hw ha r H1 ⟨hk, hr⟩
      rw [if_neg hL, hc] at hr
      simp only at hr
      subst hr
      exact ⟨hk, rfl, by simp [cutAns, hL, hc], rfl⟩
    | ok l =>
      refine Does.frozen (cut_live t hG H hbig) ?_
      rintro hw ha r H1 ⟨hk, hr⟩
      rw [if_neg hL, hc] at hr
      obtain ⟨b, hb, rfl, hg⟩ := hr
      refine ⟨b, _, hb, hg, hk, ?_, ?_, rfl⟩
      · simp [AV.frz, AV.frzs, AV.idLt, AV.allLt]
        rw [List.take_of_length_le (by simp; omega)]
        simp [allLt_app, flatW_lt, AV.allLt, AV.idLt]
      · simp [AV.frz, AV.frzs, cutAns, hL, hc]
        rw [List.take_of_length_le (by simp; omega)]
end Go.Proofs.YtbakbednenfofaaGreatDoor

namespace Go.Proofs.YtbakbednenfofaaGreatDoor
open Go Go.Abs Go.Lex
set_option linter.unusedSimpArgs false
variable {G : Nat → Option AV}
mutual
def exCells : Syn.Ex → List AV
  | .mk op nm n p ks => [.str op, .str nm, .int .i64 n, .int .i64 p, if ks.isEmpty then .nilsl else .vsl (exsCells ks) ks.length]
def exsCells : List Syn.Ex → List AV
  | [] => []
  | e :: l => exCells e ++ exsCells l
end
def stCells (W : Syn.Ws) (s : Syn.St) : List AV := [.vsl (flatW W) W.length, .int .i64 s.i, .int .i64 s.names, .int .i64 s.parts, .int .i64 s.err, .int .i64 s.pos]
def PAt (H : AHeap) (p : Nat) (W : Syn.Ws) (s : Syn.St) : Prop := H.get p = some (.cells (stCells W s))
structure WsOk (W : Syn.Ws) : Prop where
  small : W.length ≤ 20000
  last : ∀ i, i < W.length → (W.getD i (0, ⟨0, [], 0⟩)).2.kind ≠ 0 → i + 1 < W.length
theorem flatW_at : ∀ (L : List (Nat × Wd)) (i : Nat), i < L.length → (flatW L).drop (i * 4) = wdCells (L.getD i (0, ⟨0, [], 0⟩)).2 (L.getD i (0, ⟨0, [], 0⟩)).1 ++ flatW (L.drop (i + 1))
  | [], i, h => by simp at h
  | (a, b) :: L, 0, _ => by simp [flatW]
  | (a, b) :: L, i + 1, h => by
    have := flatW_at L i (by simpa using h)
    rw [Nat.succ_mul]
    simp only [flatW, List.drop_succ_cons, List.getD_cons_succ]
    rw [← this, Nat.add_comm (i * 4) 4, ← List.drop_drop]
    rw [List.drop_left' (by simp)]
theorem set_same {H : AHeap} {p : Nat} {x : AObj} (h : H.get p = some x) : H.set p x = H := by
  refine AHeap.ext' rfl fun i => ?_
  simp only [AHeap.get_set]
  split
  · rename_i e; subst e; exact h.symm
  · rfl
set_option maxRecDepth 100000 in
theorem p_ok {W : Syn.Ws} {s : Syn.St} {p : Nat} {H : AHeap} (h : PAt H p W s) : Does Tryz.prog G 12 [.ptr p 0] H fun r H' => r = .bool (decide (s.err = 0)) ∧ H' = H := by
  refine does_f Tryz.call12 Tryz.func12 rfl (by simp [Tryz.f12]) ?_
  unfold PAt stCells at h
  simp [h]
set_option maxRecDepth 100000 in
theorem p_word {W : Syn.Ws} {s : Syn.St} {p : Nat} {H : AHeap} (h : PAt H p W s) (hi : s.i < W.length) : Does Tryz.prog G 13 [.ptr p 0] H fun r H' => r = .agg (wdCells (Syn.at_ W s).2 (Syn.at_ W s).1) ∧ H' = H := by
  refine Does.forgot (R := fun r H' => r = .agg (wdCells (Syn.at_ W s).2 (Syn.at_ W s).1) ∧ ∀ j x, H.get j = some x → H'.get j = some x) ?_ ?_
  · refine Does.wf Tryz.call13 fun hw _ => ?_
    have old : ∀ j x, H.get j = some x → j ≠ H.next := fun j x hj => by have := next_lt hw hj; omega
    refine does_f Tryz.call13 Tryz.func13 rfl (by simp [Tryz.f13]) ?_
    have hp := old _ _ h
    unfold PAt stCells at h
    have hi' : (s.i : Int) < W.length := by omega
    have hd : (flatW W).drop (s.i * 4) = wdCells (Syn.at_ W s).2 (Syn.at_ W s).1 ++ flatW (W.drop (s.i + 1)) := flatW_at W s.i hi
    simp
    refine aw_drawn [(3, 0), (7, 0), (9, 0)] mixedOrders (by kernel_rfl) ?_
    intro es hes
    simp [h, hp, hi, hi', hd, rds, heapF, wdCells]
    refine ⟨?_, ?_⟩
    · subst hes
      exact ⟨by kernel_rfl, by kernel_rfl⟩
    intro j x hj
    simp [hj, old j x hj]
  · rintro hw ha r H1 ⟨rfl, h⟩
    exact ⟨h, by simp [AV.idLt, AV.allLt, wdCells], rfl, rfl⟩
theorem text_beq (a b : Bs) : (a == b) = decide (a = b) := by
  rw [Bool.eq_iff_iff]; simp
set_option maxRecDepth 100000 in
theorem p_fail {W : Syn.Ws} {s : Syn.St} {p : Nat} {H : AHeap} (h : PAt H p W s) (hi : s.i < W.length) (e : Nat) : Does Tryz.prog G 14 [.ptr p 0, .int .i64 e] H fun r H' => r = .tuple [] ∧ H' = H.set p (.cells (stCells W (Syn.fail W e s))) := by
  refine does_f Tryz.call14 Tryz.func14 rfl (by simp [Tryz.f14]) ?_
  simp
  refine does_use (p_ok h) ?_
  rintro _ H1 ⟨rfl, rfl⟩
  by_cases h0 : s.err = 0
  · simp [h0]
    refine does_use (p_word h hi) ?_
    rintro _ H2 ⟨rfl, rfl⟩
    unfold PAt stCells at h
    simp [h, h0, wdCells, Syn.fail, stCells]
  · simp [h0, Syn.fail]
    exact (set_same h).symm
set_option maxRecDepth 100000 in
theorem p_is {W : Syn.Ws} {s : Syn.St} {p : Nat} {H : AHeap} (h : PAt H p W s) (hi : s.i < W.length) (t : Bs) : Does Tryz.prog G 50 [.ptr p 0, .str t] H fun r H' => r = .bool (Syn.is W s t) ∧ H' = H := by
  refine Does.forgot (R := fun r H' => r = .bool (Syn.is W s t) ∧ ∀ j x, H.get j = some x → H'.get j = some x) ?_ ?_
  · refine Does.wf Tryz.call50 fun hw _ => ?_
    have old : ∀ j x, H.get j = some x → j ≠ H.next := fun j x hj => by have := next_lt hw hj; omega
    refine does_f Tryz.call50 Tryz.func50 rfl (by simp [Tryz.f50]) ?_
    simp
    refine does_use (p_word h hi) ?_
    rintro _ H1 ⟨rfl, rfl⟩
    have hp := old _ _ h
    simp [wdCells]
    refine does_use (p_ok (W := W) (s := s) (by unfold PAt; simp [hp]; exact h)) ?_
    rintro _ H2 ⟨rfl, rfl⟩
    by_cases h0 : s.err = 0
    · by_cases h2 : (Syn.at_ W s).2.kind = 2
      · have h2' : (((Syn.at_ W s).2.kind : Nat) : Int) = 2 := by omega
        simp [h0, h2, h2', Syn.is, Syn.kind, Syn.text]
        intro j x hj
        simp [hj, old j x hj]
      · have h2' : ¬ (((Syn.at_ W s).2.kind : Nat) : Int) = 2 := by omega
        by_cases h4 : (Syn.at_ W s).2.kind = 4
        · have h4' : (((Syn.at_ W s).2.kind : Nat) : Int) = 4 := by omega
          simp [h0, h2, h2', h4, h4', Syn.is, Syn.kind, Syn.text]
          intro j x hj
          simp [hj, old j x hj]
        · have h4' : ¬ (((Syn.at_ W s).2.kind : Nat) : Int) = 4 := by omega
          simp [h0, h2, h2', h4, h4', Syn.is, Syn.kind, Syn.text]
          intro j x hj
          simp [hj, old j x hj]
    · simp [h0, Syn.is]
      intro j x hj
      simp [hj, old j x hj]
  · rintro hw ha r H1 ⟨rfl, h⟩
    exact ⟨h, by simp [AV.idLt], rfl, rfl⟩
end Go.Proofs.YtbakbednenfofaaGreatDoor

namespace Go.Proofs.YtbakbednenfofaaGreatDoor
open Go Go.Abs Go.Lex
set_option linter.unusedSimpArgs false
variable {G : Nat → Option AV}
theorem wrap_eq (n : Int) : IntKind.i64.wrap n = Syn.wrap n := by rw [IntKind.wrap_i64]; rfl
theorem is_kind {W : Syn.Ws} {s : Syn.St} {t : Bs} (h : Syn.is W s t = true) : s.err = 0 ∧ (Syn.at_ W s).2.kind ≠ 0 := by
  simp only [Syn.is, Syn.kind, Bool.and_eq_true, Bool.or_eq_true, beq_iff_eq] at h
  exact ⟨h.1, by omega⟩
theorem one_kind {W : Syn.Ws} {s : Syn.St} {ts : List Bs} (h : Syn.one W s ts = true) : s.err = 0 ∧ (Syn.at_ W s).2.kind ≠ 0 := by
  simp only [Syn.one, List.any_eq_true] at h
  obtain ⟨t, _, h⟩ := h
  exact is_kind h
theorem ok_succ {W : Syn.Ws} (hW : WsOk W) {s : Syn.St} (hi : s.i < W.length) (hk : (Syn.at_ W s).2.kind ≠ 0) : s.i + 1 < W.length := hW.last s.i hi hk
theorem fail_i (W : Syn.Ws) (e : Nat) (s : Syn.St) : (Syn.fail W e s).i = s.i := by unfold Syn.fail; split <;> rfl
theorem want1_ok {W : Syn.Ws} (hW : WsOk W) {s : Syn.St} (hi : s.i < W.length) (t : Bs) : (Syn.want1 W s t).i < W.length := by
  unfold Syn.want1
  split
  · rename_i h; exact ok_succ hW hi (is_kind h).2
  · rw [fail_i]; exact hi
theorem want_ok {W : Syn.Ws} (hW : WsOk W) : ∀ (ts : List Bs) {s : Syn.St}, s.i < W.length → (Syn.want W s ts).i < W.length
  | [], _, h => h
  | t :: ts, _, h => want_ok hW ts (want1_ok hW h t)
theorem take_ok {W : Syn.Ws} (hW : WsOk W) {s : Syn.St} (hi : s.i < W.length) (t : Bs) : (Syn.take W s t).2.i < W.length := by
  unfold Syn.take
  split
  · rename_i h; exact ok_succ hW hi (is_kind h).2
  · exact hi
theorem part_ok {W : Syn.Ws} (hW : WsOk W) {s : Syn.St} (hi : s.i < W.length) (hk : (Syn.at_ W s).2.kind ≠ 0) : (Syn.part W s).i < W.length := by
  have h := ok_succ hW hi hk
  unfold Syn.part
  simp only
  by_cases hc : 300 < Syn.wrap (s.parts + 1)
  · simp only [hc, if_true]
    split <;> simp only [fail_i] <;> omega
  · simp only [hc, if_false]
    split <;> omega
theorem deeper_i (W : Syn.Ws) (b : Bool) (s : Syn.St) : (Syn.deeper W b s).2.i = s.i := by
  unfold Syn.deeper
  simp only
  split
  · exact fail_i W 2 s
  · rfl
theorem name_ok {W : Syn.Ws} (hW : WsOk W) {s : Syn.St} (hi : s.i < W.length) : (Syn.name W s).2.i < W.length := by
  unfold Syn.name
  simp only
  by_cases h1 : Syn.kind W s = 1
  · rw [if_pos h1]
    split
    · exact ok_succ hW hi (by unfold Syn.kind at h1; omega)
    · exact hi
  · rw [if_neg h1]
    split
    · rename_i h
      unfold Syn.fail at h
      split at h
      · simp at h
      · rename_i h2; exact absurd h h2
    · rw [fail_i]; exact hi
theorem PAt.set {H : AHeap} {p : Nat} {W : Syn.Ws} (s : Syn.St) : PAt (H.set p (.cells (stCells W s))) p W s := by unfold PAt; simp
theorem PAt.ext {H H' : AHeap} {p : Nat} {W : Syn.Ws} {s : Syn.St} (h : PAt H p W s) (hg : H'.get p = H.get p) : PAt H' p W s := hg.trans h
theorem stCells_lt (n : Nat) (W : Syn.Ws) (s : Syn.St) : AV.allLt n (stCells W s) = true := by
  simp [stCells, AV.allLt, AV.idLt, flatW_lt]
theorem set_back {W : Syn.Ws} {s s' : Syn.St} {p : Nat} {H H1 : AHeap} (hw : H.Wf) (h : PAt H p W s) (h1 : H1.get p = some (.cells (stCells W s'))) (h2 : ∀ j x, j ≠ p → H.get j = some x → H1.get j = some x) :
    ∀ i x, (H.set p (.cells (stCells W s'))).get i = some x → H1.get i = some x ∧ i < H.next ∧ AV.allLt H.next x.cellsList = true := by
  intro i x hi
  simp only [AHeap.get_set] at hi
  split at hi
  · rename_i e; subst e
    simp only [Option.some.injEq] at hi; subst hi
    exact ⟨h1, next_lt hw h, stCells_lt _ _ _⟩
  · rename_i e
    exact ⟨h2 i x e hi, (hw i x hi).1, (hw i x hi).2⟩
set_option maxRecDepth 100000 in
theorem p_index {W : Syn.Ws} {s : Syn.St} {p : Nat} {H : AHeap} (h : PAt H p W s) (hi : s.i < W.length) (ts : List Bs) (j cap : Nat) (op : Bool) (hj : H.get j = some (.cells (ts.map .str))) (hl : ts.length ≤ 1000) :
    Does Tryz.prog G 114 [.sl j 0 1 ts.length cap op, .func (.func 50) [.ptr p 0] []] H fun r H' => (∃ n : Int, r = .int .i64 n ∧ (0 ≤ n ↔ Syn.one W s ts = true)) ∧ H' = H := by
  refine does_f Tryz.call114 Tryz.func114 rfl (by simp [Tryz.f114]) ?_
  simp
  refine aws_loop (fun m T' H' => ∃ a b, ts = a ++ b ∧ m = b.length ∧ (∀ y ∈ a, Syn.is W s y = false) ∧ T' 0 = .sl j 0 1 ts.length cap op ∧ T' 1 = .func (.func 50) [.ptr p 0] [] ∧ T' 7 = .int .i64 ts.length ∧ T' 8 = .int .i64 a.length ∧ H' = H) ts.length ⟨[], ts, rfl, rfl, by simp, by simp, by simp, by simp, by simp, rfl⟩ ?_
  rintro m T H1 ⟨a, b, hab, rfl, hn, t0, t1, t7, t8, rfl⟩
  have hlen : a.length + b.length = ts.length := by rw [← List.length_append, ← hab]
  cases b with
  | nil =>
    have ha : a.length = ts.length := by simpa using hlen
    have hone : Syn.one W s ts = false := by
      rw [Syn.one, hab, List.append_nil, List.any_eq_false]
      intro x hx; rw [hn x hx]; simp
    simp [t0, t1, t7, t8, ha, hone]
  | cons t b =>
    simp only [List.length_cons] at hlen
    have hlt : (a.length : Int) < ts.length := by omega
    have hlt2 : a.length < ts.length := by omega
    have hlt3 : a.length ≤ ts.length := by omega
    have hw1 : IntKind.i64.wrap ((a.length : Int) + 1) = a.length + 1 := IntWalk.i64_in _ (by omega)
    have hd : List.drop a.length (List.map AV.str ts) = .str t :: b.map .str := by
      rw [hab, List.map_append, List.drop_left' (by simp)]; rfl
    simp [t0, t1, t7, t8, hlt, hlt2, hlt3, hd, hj]
    refine does_use (p_is h hi t) ?_
    rintro _ H2 ⟨rfl, rfl⟩
    by_cases ht : Syn.is W s t = true
    · have hone : Syn.one W s ts = true := by
        rw [Syn.one, List.any_eq_true]
        exact ⟨t, by rw [hab]; simp, ht⟩
      simp [ht, hone]
    · have ht' : Syn.is W s t = false := by simpa using ht
      simp [ht', t0, t1, t7, t8, hw1]
      refine ⟨b.length, by omega, a ++ [t], b, by simp [hab], rfl, ?_, by simp⟩
      intro y hy
      simp at hy
      rcases hy with hy | rfl
      · exact hn y hy
      · exact ht'
set_option maxRecDepth 100000 in
theorem p_contains {W : Syn.Ws} {s : Syn.St} {p : Nat} {H : AHeap} (h : PAt H p W s) (hi : s.i < W.length) (ts : List Bs) (j cap : Nat) (op : Bool) (hj : H.get j = some (.cells (ts.map .str))) (hl : ts.length ≤ 1000) :
    Does Tryz.prog G 102 [.sl j 0 1 ts.length cap op, .func (.func 50) [.ptr p 0] []] H fun r H' => r = .bool (Syn.one W s ts) ∧ H' = H := by
  refine does_f Tryz.call102 Tryz.func102 rfl (by simp [Tryz.f102]) ?_
  simp
  refine does_use (p_index h hi ts j cap op hj hl) ?_
  rintro _ H1 ⟨⟨n, rfl, hn⟩, rfl⟩
  simp
  rw [Bool.eq_iff_iff, decide_eq_true_eq, hn]
set_option maxRecDepth 100000 in
theorem p_one {W : Syn.Ws} {s : Syn.St} {p : Nat} {H : AHeap} (h : PAt H p W s) (hi : s.i < W.length) (ts : List Bs) (j cap : Nat) (op : Bool) (hj : H.get j = some (.cells (ts.map .str))) (hl : ts.length ≤ 1000) :
    Does Tryz.prog G 83 [.ptr p 0, .sl j 0 1 ts.length cap op] H fun r H' => r = .bool (Syn.one W s ts) ∧ H' = H := by
  refine does_f Tryz.call83 Tryz.func83 rfl (by simp [Tryz.f83]) ?_
  simp
  refine does_use (p_contains h hi ts j cap op hj hl) ?_
  rintro _ H1 ⟨rfl, rfl⟩
  simp
set_option maxRecDepth 100000 in
theorem p_take {W : Syn.Ws} (hW : WsOk W) {s : Syn.St} {p : Nat} {H : AHeap} (h : PAt H p W s) (hi : s.i < W.length) (t : Bs) : Does Tryz.prog G 32 [.ptr p 0, .str t] H fun r H' => r = .bool (Syn.take W s t).1 ∧ H' = H.set p (.cells (stCells W (Syn.take W s t).2)) := by
  refine does_f Tryz.call32 Tryz.func32 rfl (by simp [Tryz.f32]) ?_
  simp
  refine does_use (p_is h hi t) ?_
  rintro _ H1 ⟨rfl, rfl⟩
  have hsm := hW.small
  have hw1 : IntKind.i64.wrap ((s.i : Int) + 1) = s.i + 1 := IntWalk.i64_in _ (by omega)
  by_cases ht : Syn.is W s t = true
  · unfold PAt stCells at h
    simp [ht, Syn.take, h, hw1, stCells]
  · have ht' : Syn.is W s t = false := by simpa using ht
    simp [ht', Syn.take]
    exact (set_same h).symm
set_option maxRecDepth 100000 in
theorem p_want {W : Syn.Ws} (hW : WsOk W) {s : Syn.St} {p : Nat} {H : AHeap} (h : PAt H p W s) (hi : s.i < W.length) (ts : List Bs) (j cap : Nat) (op : Bool) (hj : H.get j = some (.cells (ts.map .str))) (hjp : j ≠ p) (hl : ts.length ≤ 1000) :
    Does Tryz.prog G 29 [.ptr p 0, .sl j 0 1 ts.length cap op] H fun r H' => r = .tuple [] ∧ H' = H.set p (.cells (stCells W (Syn.want W s ts))) := by
  refine does_f Tryz.call29 Tryz.func29 rfl (by simp [Tryz.f29]) ?_
  simp
  refine aws_loop (fun m T' H' => ∃ a b, ts = a ++ b ∧ m = b.length ∧ T' 0 = .ptr p 0 ∧ T' 6 = .sl j 0 1 ts.length cap op ∧ T' 7 = .int .i64 ts.length ∧ T' 8 = .int .i64 a.length ∧ H' = H.set p (.cells (stCells W (Syn.want W s a)))) ts.length ⟨[], ts, rfl, rfl, by simp, by simp, by simp, by simp, by simp [Syn.want]; exact (set_same h).symm⟩ ?_
  rintro m T H1 ⟨a, b, hab, rfl, t0, t6, t7, t8, rfl⟩
  have hlen : a.length + b.length = ts.length := by rw [← List.length_append, ← hab]
  cases b with
  | nil =>
    have ha : a.length = ts.length := by simpa using hlen
    rw [List.append_nil] at hab
    subst hab
    simp [t0, t6, t7, t8]
  | cons t b =>
    simp only [List.length_cons] at hlen
    have hlt : (a.length : Int) < ts.length := by omega
    have hlt2 : a.length < ts.length := by omega
    have hlt3 : a.length ≤ ts.length := by omega
    have hw1 : IntKind.i64.wrap ((a.length : Int) + 1) = a.length + 1 := IntWalk.i64_in _ (by omega)
    have hd : List.drop a.length (List.map AV.str ts) = .str t :: b.map .str := by
      rw [hab, List.map_append, List.drop_left' (by simp)]; rfl
    have hia := want_ok hW a hi
    have hst : Syn.want W s (a ++ [t]) = Syn.want1 W (Syn.want W s a) t := by simp [Syn.want]
    simp [t0, t6, t7, t8, hlt, hlt2, hlt3, hd, hj, hjp]
    refine does_use (p_take hW (PAt.set _) hia t) ?_
    rintro _ H2 ⟨rfl, rfl⟩
    simp
    by_cases ht : Syn.is W (Syn.want W s a) t = true
    · simp [ht, Syn.take, t0, t6, t7, t8, hw1]
      exact ⟨b.length, by omega, a ++ [t], b, by simp [hab], rfl, by simp, by rw [hst, Syn.want1, if_pos ht]⟩
    · have ht' : Syn.is W (Syn.want W s a) t = false := by simpa using ht
      simp [ht', Syn.take, t0, t6, t7, t8, hw1]
      refine does_use (p_fail (PAt.set _) hia 7) ?_
      rintro _ H3 ⟨rfl, rfl⟩
      simp [t0, t6, t7, t8, hw1]
      exact ⟨b.length, by omega, a ++ [t], b, by simp [hab], rfl, by simp, by rw [hst, Syn.want1, if_neg ht]⟩
set_option maxRecDepth 100000 in
theorem p_deeper {W : Syn.Ws} {s : Syn.St} {p : Nat} {H : AHeap} (h : PAt H p W s) (hi : s.i < W.length) (d : Int) : Does Tryz.prog G 66 [.ptr p 0, .int .i64 d] H fun r H' => r = .bool (Syn.deeper W (decide (d = 30)) s).1 ∧ H' = H.set p (.cells (stCells W (Syn.deeper W (decide (d = 30)) s).2)) := by
  refine does_f Tryz.call66 Tryz.func66 rfl (by simp [Tryz.f66]) ?_
  by_cases hd : d = 30
  · simp [hd]
    refine does_use (p_fail h hi 2) ?_
    rintro _ H1 ⟨rfl, rfl⟩
    simp
    refine does_use (p_ok (PAt.set _)) ?_
    rintro _ H2 ⟨rfl, rfl⟩
    subst hd
    simp [Syn.deeper]
  · simp [hd]
    refine does_use (p_ok h) ?_
    rintro _ H2 ⟨rfl, rfl⟩
    simp [Syn.deeper, hd]
    exact (set_same h).symm
set_option maxRecDepth 100000 in
theorem p_part {W : Syn.Ws} (hW : WsOk W) {s : Syn.St} {p : Nat} {H : AHeap} (h : PAt H p W s) (hi : s.i < W.length) : Does Tryz.prog G 65 [.ptr p 0] H fun r H' => r = .agg (wdCells (Syn.at_ W s).2 (Syn.at_ W s).1) ∧ H' = H.set p (.cells (stCells W (Syn.part W s))) := by
  refine Does.deep (R := fun r H' => r = .agg (wdCells (Syn.at_ W s).2 (Syn.at_ W s).1) ∧ H'.get p = some (.cells (stCells W (Syn.part W s))) ∧ ∀ j x, j ≠ p → H.get j = some x → H'.get j = some x) ?_ ?_
  · refine Does.wf Tryz.call65 fun hw _ => ?_
    have old : ∀ j x, H.get j = some x → j ≠ H.next ∧ j ≠ H.next + 1 := fun j x hj => by have := next_lt hw hj; omega
    refine does_f Tryz.call65 Tryz.func65 rfl (by simp [Tryz.f65]) ?_
    obtain ⟨hp1, hp2⟩ := old _ _ h
    have hsm := hW.small
    have hw1 : IntKind.i64.wrap ((s.i : Int) + 1) = s.i + 1 := IntWalk.i64_in _ (by omega)
    have hw2 : IntKind.i64.wrap (s.parts + 1) = Syn.wrap (s.parts + 1) := wrap_eq _
    simp
    refine does_use (p_word (W := W) (s := s) (by unfold PAt; simp [hp1]; exact h) hi) ?_
    rintro _ H1 ⟨rfl, rfl⟩
    have h' := h
    unfold PAt stCells at h'
    by_cases hc : 300 < Syn.wrap (s.parts + 1)
    · simp [wdCells, h', hp1, hp2, hw2, hc]
      refine does_use (p_fail (W := W) (s := { s with parts := Syn.wrap (s.parts + 1) }) (by unfold PAt stCells; simp) hi 2) ?_
      rintro _ H2 ⟨rfl, rfl⟩
      simp
      refine does_use (p_ok (PAt.set _)) ?_
      rintro _ H3 ⟨rfl, rfl⟩
      by_cases h0 : (Syn.fail W 2 { s with parts := Syn.wrap (s.parts + 1) }).err = 0
      · exact absurd h0 (by unfold Syn.fail; split <;> simp_all)
      · simp [h0, Syn.part, hc, hp1, hp2, Ne.symm hp1, Ne.symm hp2]
        refine ⟨rfl, fun j x hjp hj => ?_⟩
        obtain ⟨k1, k2⟩ := old j x hj
        simp [hj, hjp, k1, k2]
    · simp [wdCells, h', hp1, hp2, hw2, hc]
      refine does_use (p_ok (W := W) (s := { s with parts := Syn.wrap (s.parts + 1) }) (by unfold PAt stCells; simp)) ?_
      rintro _ H3 ⟨rfl, rfl⟩
      by_cases h0 : s.err = 0
      · simp [h0, Syn.part, hc, hp1, hp2, Ne.symm hp1, Ne.symm hp2, hw1, stCells]
        refine ⟨rfl, fun j x hjp hj => ?_⟩
        obtain ⟨k1, k2⟩ := old j x hj
        simp [hj, hjp, k1, k2]
      · simp [h0, Syn.part, hc, hp1, hp2, Ne.symm hp1, Ne.symm hp2, hw1, stCells]
        refine ⟨rfl, fun j x hjp hj => ?_⟩
        obtain ⟨k1, k2⟩ := old j x hj
        simp [hj, hjp, k1, k2]
  · rintro hw ha r H1 ⟨rfl, h1, h2⟩
    exact ⟨_, H.set p (.cells (stCells W (Syn.part W s))), .old (by simp [AV.idLt, AV.allLt, wdCells]), rfl, set_back hw h h1 h2, rfl, rfl⟩
end Go.Proofs.YtbakbednenfofaaGreatDoor

namespace Go.Proofs.YtbakbednenfofaaGreatDoor
open Go Go.Abs Go.Lex
set_option linter.unusedSimpArgs false
variable {G : Nat → Option AV}
def kidsV (ks : List Syn.Ex) : AV := if ks.isEmpty then .nilsl else .vsl (exsCells ks) ks.length
@[simp] theorem kidsV_scalar (ks : List Syn.Ex) : (kidsV ks).scalar = true := by unfold kidsV; split <;> rfl
@[simp] theorem kidsV_cells (ks : List Syn.Ex) : (kidsV ks).cells = [kidsV ks] := by unfold kidsV; split <;> rfl
theorem exCells_mk (op nm : Bs) (n p : Nat) (ks : List Syn.Ex) : exCells (.mk op nm n p ks) = [.str op, .str nm, .int .i64 n, .int .i64 p, kidsV ks] := by
  simp only [exCells, kidsV]
mutual
theorem exCells_lt (m : Nat) : ∀ e : Syn.Ex, AV.allLt m (exCells e) = true
  | .mk op nm n p ks => by
    have h := exsCells_lt m ks
    rw [exCells_mk]
    unfold kidsV
    split <;> simp [AV.allLt, AV.idLt, h]
theorem exsCells_lt (m : Nat) : ∀ l : List Syn.Ex, AV.allLt m (exsCells l) = true
  | [] => rfl
  | e :: l => by rw [exsCells, allLt_app, exCells_lt m e, exsCells_lt m l]; rfl
end
theorem kidsV_lt (m : Nat) (ks : List Syn.Ex) : (kidsV ks).idLt m = true := by
  unfold kidsV
  split
  · rfl
  · simpa [AV.idLt] using exsCells_lt m ks
def PRes (H : AHeap) (p : Nat) (W : Syn.Ws) (x : Syn.Ex × Syn.St) (r : AV) (H' : AHeap) : Prop :=
  ResV H'.get H.next r (.agg (exCells x.1)) ∧ H'.get p = some (.cells (stCells W x.2)) ∧ ∀ j y, j ≠ p → H.get j = some y → H'.get j = some y
theorem PRes.deep {f : FuncId} {args : List AV} {H : AHeap} {p : Nat} {W : Syn.Ws} {s : Syn.St} {x : Syn.Ex × Syn.St} (h : PAt H p W s) (hd : Does Tryz.prog G f args H (PRes H p W x)) : Does Tryz.prog G f args H fun r H' => r = .agg (exCells x.1) ∧ H' = H.set p (.cells (stCells W x.2)) := by
  refine Does.deep hd ?_
  rintro hw ha r H1 ⟨h1, h2, h3⟩
  exact ⟨_, H.set p (.cells (stCells W x.2)), h1, rfl, set_back hw h h2 h3, rfl, rfl⟩
def Reads (G : Nat → Option AV) (W : Syn.Ws) (p : Nat) (f : FuncId) (d : Int) (g : Syn.P) : Prop :=
  ∀ (H : AHeap) (s : Syn.St), PAt H p W s → s.i < W.length → Does Tryz.prog G f [.ptr p 0, .int .i64 d] H fun r H' => r = .agg (exCells (g s).1) ∧ H' = H.set p (.cells (stCells W (g s).2))
def RightC (G : Nat → Option AV) (W : Syn.Ws) (p : Nat) (nf : FuncId) (t : Bs) (d : Int) (g : Syn.P) : Prop :=
  ∀ (H : AHeap) (s : Syn.St), PAt H p W s → s.i < W.length → Does Tryz.prog G 52 [.ptr p 0, .int .i64 d, .func (.func nf) [.ptr p 0] [], .str t] H fun r H' => r = .agg (exCells (g s).1) ∧ H' = H.set p (.cells (stCells W (g s).2))
def mu (W : Syn.Ws) (s : Syn.St) : Nat := if s.err = 0 then W.length - s.i else 0
structure Keeps (W : Syn.Ws) (g : Syn.P) : Prop where
  i : ∀ s, s.i < W.length → (g s).2.i < W.length
  mu : ∀ s, s.i < W.length → mu W (g s).2 ≤ mu W s
set_option maxRecDepth 100000 in
theorem p_name {W : Syn.Ws} (hW : WsOk W) {s : Syn.St} {p : Nat} {H : AHeap} (h : PAt H p W s) (hi : s.i < W.length) : Does Tryz.prog G 30 [.ptr p 0] H fun r H' => r = .str (Syn.name W s).1 ∧ H' = H.set p (.cells (stCells W (Syn.name W s).2)) := by
  refine Does.deep (R := fun r H' => r = .str (Syn.name W s).1 ∧ H'.get p = some (.cells (stCells W (Syn.name W s).2)) ∧ ∀ j x, j ≠ p → H.get j = some x → H'.get j = some x) ?_ ?_
  · refine Does.wf Tryz.call30 fun hw _ => ?_
    have old : ∀ j x, H.get j = some x → j ≠ H.next := fun j x hj => by have := next_lt hw hj; omega
    refine does_f Tryz.call30 Tryz.func30 rfl (by simp [Tryz.f30]) ?_
    have hp1 := old _ _ h
    have hsm := hW.small
    have hw1 : IntKind.i64.wrap ((s.i : Int) + 1) = s.i + 1 := IntWalk.i64_in _ (by omega)
    simp
    refine does_use (p_word h hi) ?_
    rintro _ H1 ⟨rfl, rfl⟩
    by_cases hk : (Syn.at_ W s).2.kind = 1
    · have hk' : (((Syn.at_ W s).2.kind : Nat) : Int) = 1 := by omega
      simp [wdCells, hk']
      refine does_use (p_ok (W := W) (s := s) (by unfold PAt; simp [hp1]; exact h)) ?_
      rintro _ H2 ⟨rfl, rfl⟩
      by_cases h0 : s.err = 0
      · have h' := h
        unfold PAt stCells at h'
        simp [h0, h', hp1, Ne.symm hp1, hw1, Syn.name, Syn.kind, hk, Syn.text, stCells]
        intro j x hjp hj
        simp [hj, hjp, old j x hj]
      · simp [h0, hp1, Syn.name, Syn.kind, hk]
        refine ⟨h, fun j x hjp hj => ?_⟩
        simp [hj, hjp, old j x hj]
    · have hk' : ¬ (((Syn.at_ W s).2.kind : Nat) : Int) = 1 := by omega
      have hk2 : ((((Syn.at_ W s).2.kind : Nat) : Int) != 1) = true := by simp [hk']
      simp [wdCells, hk2]
      refine does_use (p_fail (W := W) (s := s) (by unfold PAt; simp [hp1]; exact h) hi 7) ?_
      rintro _ H2 ⟨rfl, rfl⟩
      simp
      refine does_use (p_ok (PAt.set _)) ?_
      rintro _ H3 ⟨rfl, rfl⟩
      have h0 : ¬ (Syn.fail W 7 s).err = 0 := by unfold Syn.fail; split <;> simp_all
      simp [h0, hp1, Syn.name, Syn.kind, hk]
      intro j x hjp hj
      simp [hj, hjp, old j x hj]
  · rintro hw ha r H1 ⟨rfl, h1, h2⟩
    exact ⟨_, H.set p (.cells (stCells W (Syn.name W s).2)), .old rfl, rfl, set_back hw h h1 h2, rfl, rfl⟩
set_option maxHeartbeats 2000000 in
set_option maxRecDepth 100000 in
theorem p_right {W : Syn.Ws} (hW : WsOk W) {p : Nat} {nf : FuncId} {t : Bs} {d : Int} {next below : Syn.P} (hd1 : 1 ≤ d) (hd2 : d ≤ 30) (hn : Reads G W p nf d next) (hk : Keeps W next) (hb : d ≠ 30 → RightC G W p nf t (d + 1) below) :
    RightC G W p nf t d (Syn.right W next t (decide (d = 30)) below) := by
  intro H s h hi
  refine PRes.deep h ?_
  refine Does.wf Tryz.call52 fun hw _ => ?_
  have old : ∀ j x, H.get j = some x → j ≠ H.next ∧ j ≠ H.next + 1 ∧ j ≠ H.next + 1 + 1 := fun j x hj => by have := next_lt hw hj; omega
  refine does_f Tryz.call52 Tryz.func52 rfl (by simp [Tryz.f52]) ?_
  obtain ⟨hp1, hp2, hp3⟩ := old _ _ h
  simp
  refine does_use (hn _ s (by unfold PAt; simp [hp1]; exact h) hi) ?_
  rintro _ H1 ⟨rfl, rfl⟩
  have hi1 := hk.i s hi
  rcases hx : next s with ⟨⟨op, nm, n, po, ks⟩, s1⟩
  rw [hx] at hi1
  simp only at hi1
  simp [exCells_mk, hp1, Ne.symm hp1]
  refine does_use (p_is (W := W) (s := s1) (by unfold PAt; simp [hp2]) hi1 t) ?_
  rintro _ H2 ⟨rfl, rfl⟩
  by_cases ht : Syn.is W s1 t = true
  · simp [ht]
    have hk1 := is_kind ht
    refine does_use (p_part hW (W := W) (s := s1) (by unfold PAt; simp [hp2]) hi1) ?_
    rintro _ H2 ⟨rfl, rfl⟩
    have hi2 := part_ok hW hi1 hk1.2
    simp [wdCells]
    refine does_use (p_deeper (W := W) (s := Syn.part W s1) (by unfold PAt; simp [hp3]) hi2 d) ?_
    rintro _ H3 ⟨rfl, rfl⟩
    rcases hdp : Syn.deeper W (decide (d = 30)) (Syn.part W s1) with ⟨b, s2⟩
    have hi3 : s2.i < W.length := by
      have := deeper_i W (decide (d = 30)) (Syn.part W s1)
      rw [hdp] at this
      simp only at this
      omega
    have n0 : H.next ≠ H.next + 1 + 1 := by omega
    cases b with
    | false =>
      simp [hp1, hp2, hp3, Ne.symm hp1, Ne.symm hp2, Ne.symm hp3, n0]
      refine ⟨?_, ?_, ?_⟩
      · simp [Syn.right, hx, ht, hdp]
        rw [exCells_mk]
        exact .old (by simp [AV.idLt, AV.allLt, kidsV_lt])
      · simp [Syn.right, hx, ht, hdp, hp1, hp2, hp3]
      · intro j x hjp hj
        obtain ⟨k1, k2, k3⟩ := old j x hj
        simp [hj, hjp, k1, k2, k3]
    | true =>
      have hd30 : d ≠ 30 := by
        intro e
        subst e
        simp only [decide_true, Syn.deeper, if_true, Prod.mk.injEq] at hdp
        have : ¬ (Syn.fail W 2 (Syn.part W s1)).err = 0 := by unfold Syn.fail; split <;> simp_all
        simp [this] at hdp
      have hw1 : IntKind.i64.wrap (d + 1) = d + 1 := IntWalk.i64_in _ (by omega)
      have hB := hb hd30 
      simp [hp1, hp2, hp3, Ne.symm hp1, Ne.symm hp2, Ne.symm hp3, n0]
      refine aw_drawn [(2, 0), (2, 10), (3, 0), (3, 10)] mixedOrders (by kernel_rfl) ?_
      intro es hes
      simp [hp1, hp2, hp3, Ne.symm hp1, Ne.symm hp2, Ne.symm hp3, n0, hw1]
      refine ⟨_, _, hB _ s2 (by unfold PAt; simp) hi3, by simp, ?_⟩
      rcases hy : below s2 with ⟨⟨op2, nm2, n2, po2, ks2⟩, s4⟩
      have m1 : H.next ≠ H.next + 1 + 1 + 1 := by omega
      have m2 : H.next + 1 + 1 + 1 ≠ H.next := by omega
      have m3 : H.next + 1 + 1 + 1 ≠ H.next + 1 := by omega
      have hp4 : p ≠ H.next + 1 + 1 + 1 := by have := next_lt hw h; omega
      simp [exCells_mk, hp1, hp2, hp3, hp4, Ne.symm hp1, Ne.symm hp2, Ne.symm hp3, Ne.symm hp4, n0, m1, m2, m3, rds, heapF]
      refine ⟨?_, ?_, ?_, ?_⟩
      · subst hes
        exact ⟨by kernel_rfl, by kernel_rfl⟩
      · simp [Syn.right, hx, ht, hdp, hy]
        rw [exCells_mk]
        refine .agg (.cons (.old rfl) (.cons (.old rfl) (.cons (.old rfl) (.cons (.old rfl) (.cons ?_ .nil)))))
        have hkk : kidsV [Syn.Ex.mk op nm n po ks, Syn.Ex.mk op2 nm2 n2 po2 ks2] = .vsl (exsCells [Syn.Ex.mk op nm n po ks, Syn.Ex.mk op2 nm2 n2 po2 ks2]) 2 := rfl
        rw [hkk]
        refine .sl (cs := exsCells [Syn.Ex.mk op nm n po ks, Syn.Ex.mk op2 nm2 n2 po2 ks2]) (by omega) ?_ ?_
        · simp [exsCells, exCells_mk, hp4, Ne.symm hp4, m1, m2, m3]
        · simp only [exsCells, exCells_mk]
          exact .old (by simp [AV.allLt, AV.idLt, kidsV_lt])
      · simp [Syn.right, hx, ht, hdp, hy, hp1, hp2, hp3, hp4]
      · intro j x hjp hj
        obtain ⟨k1, k2, k3⟩ := old j x hj
        have k4 : j ≠ H.next + 1 + 1 + 1 := by have := next_lt hw hj; omega
        simp [hj, hjp, k1, k2, k3, k4]
  · have ht' : Syn.is W s1 t = false := by simpa using ht
    simp [ht', hp1, hp2, Ne.symm hp1, Ne.symm hp2]
    refine ⟨?_, ?_, ?_⟩
    · simp [Syn.right, hx, ht']
      rw [exCells_mk]
      exact .old (by simp [AV.idLt, AV.allLt, kidsV_lt])
    · simp [Syn.right, hx, ht', hp1, hp2]
    · intro j x hjp hj
      obtain ⟨k1, k2, k3⟩ := old j x hj
      simp [hj, hjp, k1, k2, k3]
end Go.Proofs.YtbakbednenfofaaGreatDoor

namespace Go.Proofs.YtbakbednenfofaaGreatDoor
open Go Go.Abs Go.Lex
set_option linter.unusedSimpArgs false
variable {G : Nat → Option AV}
theorem fail_err (W : Syn.Ws) {e : Nat} (he : e ≠ 0) (s : Syn.St) : ¬ (Syn.fail W e s).err = 0 := by unfold Syn.fail; split <;> simp_all
theorem deeper_no {W : Syn.Ws} {d : Int} {s s2 : Syn.St} (h : Syn.deeper W (decide (d = 30)) s = (true, s2)) : d ≠ 30 ∧ s2 = s := by
  by_cases e : d = 30
  · subst e
    simp [Syn.deeper, fail_err W (e := 2) (by omega)] at h
  · simp only [Syn.deeper, e, decide_false, Bool.false_eq_true, if_false, Prod.mk.injEq] at h
    exact ⟨e, h.2.symm⟩
set_option maxHeartbeats 2000000 in
set_option maxRecDepth 100000 in
theorem p_inner {W : Syn.Ws} {p : Nat} {d : Int} {below : Syn.P} (hd1 : 1 ≤ d) (hd2 : d ≤ 30) (hb : d ≠ 30 → Reads G W p 34 (d + 1) below) :
    Reads G W p 122 d (Syn.inner W (decide (d = 30)) below) := by
  intro H s h hi
  refine PRes.deep h ?_
  refine Does.wf Tryz.call122 fun hw _ => ?_
  have old : ∀ j x, H.get j = some x → j ≠ H.next := fun j x hj => by have := next_lt hw hj; omega
  refine does_f Tryz.call122 Tryz.func122 rfl (by simp [Tryz.f122]) ?_
  have hp1 := old _ _ h
  simp
  refine does_use (p_deeper (W := W) (s := s) (by unfold PAt; simp [hp1]; exact h) hi d) ?_
  rintro _ H1 ⟨rfl, rfl⟩
  rcases hdp : Syn.deeper W (decide (d = 30)) s with ⟨b, s2⟩
  have hi3 : s2.i < W.length := by
    have := deeper_i W (decide (d = 30)) s
    rw [hdp] at this
    simp only at this
    omega
  cases b with
  | false =>
    simp [hp1, Ne.symm hp1]
    refine ⟨?_, ?_, ?_⟩
    · simp [Syn.inner, hdp]
      exact .old rfl
    · simp [Syn.inner, hdp, hp1]
    · intro j x hjp hj
      simp [hj, hjp, old j x hj]
  | true =>
    have hd30 := (deeper_no hdp).1
    have hw1 : IntKind.i64.wrap (d + 1) = d + 1 := IntWalk.i64_in _ (by omega)
    have hB := hb hd30
    simp [hp1, Ne.symm hp1, hw1]
    refine does_use (hB _ s2 (PAt.set _) hi3) ?_
    rintro _ H2 ⟨rfl, rfl⟩
    rcases hy : below s2 with ⟨⟨op, nm, n, po, ks⟩, s4⟩
    simp [exCells_mk, hp1, Ne.symm hp1]
    refine ⟨?_, ?_, ?_⟩
    · simp [Syn.inner, hdp, hy]
      rw [exCells_mk]
      exact .old (by simp [AV.idLt, AV.allLt, kidsV_lt])
    · simp [Syn.inner, hdp, hy, hp1]
    · intro j x hjp hj
      simp [hj, hjp, old j x hj]
set_option maxHeartbeats 2000000 in
set_option maxRecDepth 100000 in
theorem p_merged {W : Syn.Ws} {p : Nat} {d : Int} {below : Syn.P} (hd1 : 1 ≤ d) (hd2 : d ≤ 30) (hb : d ≠ 30 → Reads G W p 121 (d + 1) below) :
    Reads G W p 125 d (Syn.inner W (decide (d = 30)) below) := by
  intro H s h hi
  refine PRes.deep h ?_
  refine Does.wf Tryz.call125 fun hw _ => ?_
  have old : ∀ j x, H.get j = some x → j ≠ H.next := fun j x hj => by have := next_lt hw hj; omega
  refine does_f Tryz.call125 Tryz.func125 rfl (by simp [Tryz.f125]) ?_
  have hp1 := old _ _ h
  simp
  refine does_use (p_deeper (W := W) (s := s) (by unfold PAt; simp [hp1]; exact h) hi d) ?_
  rintro _ H1 ⟨rfl, rfl⟩
  rcases hdp : Syn.deeper W (decide (d = 30)) s with ⟨b, s2⟩
  have hi3 : s2.i < W.length := by
    have := deeper_i W (decide (d = 30)) s
    rw [hdp] at this
    simp only at this
    omega
  cases b with
  | false =>
    simp [hp1, Ne.symm hp1]
    refine ⟨?_, ?_, ?_⟩
    · simp [Syn.inner, hdp]
      exact .old rfl
    · simp [Syn.inner, hdp, hp1]
    · intro j x hjp hj
      simp [hj, hjp, old j x hj]
  | true =>
    have hd30 := (deeper_no hdp).1
    have hw1 : IntKind.i64.wrap (d + 1) = d + 1 := IntWalk.i64_in _ (by omega)
    have hB := hb hd30
    simp [hp1, Ne.symm hp1, hw1]
    refine does_use (hB _ s2 (PAt.set _) hi3) ?_
    rintro _ H2 ⟨rfl, rfl⟩
    rcases hy : below s2 with ⟨⟨op, nm, n, po, ks⟩, s4⟩
    simp [exCells_mk, hp1, Ne.symm hp1]
    refine ⟨?_, ?_, ?_⟩
    · simp [Syn.inner, hdp, hy]
      rw [exCells_mk]
      exact .old (by simp [AV.idLt, AV.allLt, kidsV_lt])
    · simp [Syn.inner, hdp, hy, hp1]
    · intro j x hjp hj
      simp [hj, hjp, old j x hj]
set_option maxHeartbeats 4000000 in
set_option maxRecDepth 100000 in
theorem p_un {W : Syn.Ws} (hW : WsOk W) {p : Nat} {d : Int} {prim below : Syn.P} (hd1 : 1 ≤ d) (hd2 : d ≤ 30) (hn : Reads G W p 121 d prim) (hb : d ≠ 30 → Reads G W p 120 (d + 1) below) :
    Reads G W p 120 d (Syn.un W prim (decide (d = 30)) below) := by
  intro H s h hi
  refine PRes.deep h ?_
  refine Does.wf Tryz.call120 fun hw _ => ?_
  have old : ∀ j x, H.get j = some x → j ≠ H.next ∧ j ≠ H.next + 1 ∧ j ≠ H.next + 1 + 1 ∧ j ≠ H.next + 1 + 1 + 1 := fun j x hj => by have := next_lt hw hj; omega
  refine does_f Tryz.call120 Tryz.func120 rfl (by simp [Tryz.f120]) ?_
  obtain ⟨hp1, hp2, hp3, hp4⟩ := old _ _ h
  have hq1 := Ne.symm hp1
  have hq2 := Ne.symm hp2
  have hq3 := Ne.symm hp3
  have hq4 := Ne.symm hp4
  have m1 : H.next ≠ H.next + 1 := by omega
  have m2 : H.next ≠ H.next + 1 + 1 := by omega
  have m3 : H.next ≠ H.next + 1 + 1 + 1 := by omega
  have m4 : H.next + 1 ≠ H.next + 1 + 1 + 1 := by omega
  have m5 : H.next + 1 + 1 + 1 ≠ H.next := by omega
  simp
  refine does_use (p_one (W := W) (s := s) (by unfold PAt; simp [hp1, hp2]; exact h) hi [[110, 111, 116], [45], [112, 114, 101]] (H.next + 1) 3 false (by simp) (by simp)) ?_
  rintro _ H1 ⟨rfl, rfl⟩
  by_cases ho : Syn.one W s [[110, 111, 116], [45], [112, 114, 101]] = true
  · have hk1 := one_kind ho
    simp [ho]
    refine does_use (p_part hW (W := W) (s := s) (by unfold PAt; simp [hp1, hp2]; exact h) hi) ?_
    rintro _ H2 ⟨rfl, rfl⟩
    have hi2 := part_ok hW hi hk1.2
    obtain ⟨opn, hopn⟩ : ∃ opn, opn = if (Syn.at_ W s).2.text = [45] then [110, 101, 103] else (Syn.at_ W s).2.text := ⟨_, rfl⟩
    have main : ∀ (c : Bool), c = decide ((Syn.at_ W s).2.text = [45]) → True := fun _ _ => trivial
    by_cases ht : (Syn.at_ W s).2.text = [45]
    all_goals
      simp [ht] at hopn
      subst hopn
      simp [wdCells, ht, text_beq]
      refine does_use (p_deeper (W := W) (s := Syn.part W s) (by unfold PAt; simp [hp1, hp2, hp3, hq1, hq2, hq3]) hi2 d) ?_
      rintro _ H3 ⟨rfl, rfl⟩
      rcases hdp : Syn.deeper W (decide (d = 30)) (Syn.part W s) with ⟨b, s2⟩
      have hi3 : s2.i < W.length := by
        have := deeper_i W (decide (d = 30)) (Syn.part W s)
        rw [hdp] at this
        simp only at this
        omega
      cases b with
      | false =>
        simp [hp1, hp2, hp3, hq1, hq2, hq3, m1, m2, m3, m4]
        refine ⟨?_, ?_, ?_⟩
        · simp [Syn.un, ho, hdp]
          exact .old rfl
        · simp [Syn.un, ho, hdp, hp1, hp2, hp3]
        · intro j x hjp hj
          obtain ⟨k1, k2, k3, k4⟩ := old j x hj
          simp [hj, hjp, k1, k2, k3, k4]
      | true =>
        have hd30 := (deeper_no hdp).1
        have hw1 : IntKind.i64.wrap (d + 1) = d + 1 := IntWalk.i64_in _ (by omega)
        have hB := hb hd30
        simp [hp1, hp2, hp3, hq1, hq2, hq3, m1, m2, m3, m4]
        refine aw_drawn [(2, 0), (2, 7)] mixedOrders (by kernel_rfl) ?_
        intro es hes
        simp [hp1, hp2, hp3, hq1, hq2, hq3, m1, m2, m3, m4, hw1]
        refine ⟨_, _, hB _ s2 (by unfold PAt; simp) hi3, by simp, ?_⟩
        rcases hy : below s2 with ⟨⟨op2, nm2, n2, po2, ks2⟩, s4⟩
        simp [exCells_mk, hp1, hp2, hp3, hp4, hq1, hq2, hq3, hq4, m1, m2, m3, m4, m5, rds, heapF]
        refine ⟨?_, ?_, ?_, ?_⟩
        · subst hes
          exact ⟨by kernel_rfl, by kernel_rfl⟩
        · simp [Syn.un, ho, hdp, hy, ht]
          rw [exCells_mk]
          refine .agg (.cons (.old rfl) (.cons (.old rfl) (.cons (.old rfl) (.cons (.old rfl) (.cons ?_ .nil)))))
          have hkk : kidsV [Syn.Ex.mk op2 nm2 n2 po2 ks2] = .vsl (exsCells [Syn.Ex.mk op2 nm2 n2 po2 ks2]) 1 := rfl
          rw [hkk]
          refine .sl (cs := exsCells [Syn.Ex.mk op2 nm2 n2 po2 ks2]) (by omega) ?_ ?_
          · simp [exsCells, exCells_mk, hp4, hq4, m1, m2, m3, m4, m5]
          · simp only [exsCells, exCells_mk]
            exact .old (by simp [AV.allLt, AV.idLt, kidsV_lt])
        · simp [Syn.un, ho, hdp, hy, hp1, hp2, hp3, hp4]
        · intro j x hjp hj
          obtain ⟨k1, k2, k3, k4⟩ := old j x hj
          simp [hj, hjp, k1, k2, k3, k4]
  · have ho' : Syn.one W s [[110, 111, 116], [45], [112, 114, 101]] = false := by simpa using ho
    simp [ho']
    refine does_use (hn _ s (by unfold PAt; simp [hp1, hp2]; exact h) hi) ?_
    rintro _ H2 ⟨rfl, rfl⟩
    rcases hy : prim s with ⟨⟨op, nm, n, po, ks⟩, s4⟩
    simp [exCells_mk, hp1, hp2, hq1, hq2, m1]
    refine ⟨?_, ?_, ?_⟩
    · simp [Syn.un, ho', hy]
      rw [exCells_mk]
      exact .old (by simp [AV.idLt, AV.allLt, kidsV_lt])
    · simp [Syn.un, ho', hy, hp1, hp2]
    · intro j x hjp hj
      obtain ⟨k1, k2, k3, k4⟩ := old j x hj
      simp [hj, hjp, k1, k2, k3, k4]
end Go.Proofs.YtbakbednenfofaaGreatDoor

namespace Go.Proofs.YtbakbednenfofaaGreatDoor
open Go Go.Abs Go.Lex
set_option linter.unusedSimpArgs false
variable {G : Nat → Option AV}
theorem part_mu {W : Syn.Ws} {s : Syn.St} (hi : s.i < W.length) (h0 : s.err = 0) : mu W (Syn.part W s) < mu W s := by
  have e1 : mu W s = W.length - s.i := by unfold mu; rw [if_pos h0]
  rw [e1]
  unfold Syn.part
  simp only
  by_cases hc : 300 < Syn.wrap (s.parts + 1)
  · simp only [hc, if_true]
    have := fail_err W (e := 2) (by omega) { s with parts := Syn.wrap (s.parts + 1) }
    rw [if_neg this]
    unfold mu
    rw [if_neg this]
    omega
  · simp only [hc, if_false, h0, if_true]
    unfold mu
    simp only [h0, if_true]
    omega
set_option maxHeartbeats 4000000 in
set_option maxRecDepth 100000 in
theorem p_cmp {W : Syn.Ws} (hW : WsOk W) {p : Nat} {d : Int} {next : Syn.P} (hn : Reads G W p 103 d next) (hk : Keeps W next) : Reads G W p 84 d (Syn.cmp W next) := by
  intro H s h hi
  refine PRes.deep h ?_
  refine Does.wf Tryz.call84 fun hw _ => ?_
  have old : ∀ j x, H.get j = some x → j ≠ H.next ∧ j ≠ H.next + 1 ∧ j ≠ H.next + 1 + 1 ∧ j ≠ H.next + 1 + 1 + 1 ∧ j ≠ H.next + 1 + 1 + 1 + 1 := fun j x hj => by have := next_lt hw hj; omega
  refine does_f Tryz.call84 Tryz.func84 rfl (by simp [Tryz.f84]) ?_
  obtain ⟨hp1, hp2, hp3, hp4, hp5⟩ := old _ _ h
  have hq1 := Ne.symm hp1
  have hq2 := Ne.symm hp2
  have hq3 := Ne.symm hp3
  have hq4 := Ne.symm hp4
  have hq5 := Ne.symm hp5
  have m1 : H.next ≠ H.next + 1 := by omega
  have m2 : H.next ≠ H.next + 1 + 1 := by omega
  have m3 : H.next ≠ H.next + 1 + 1 + 1 := by omega
  have m4 : H.next + 1 ≠ H.next + 1 + 1 + 1 := by omega
  have m5 : H.next + 1 + 1 + 1 ≠ H.next := by omega
  have m6 : H.next ≠ H.next + 1 + 1 + 1 + 1 := by omega
  have m7 : H.next + 1 ≠ H.next + 1 + 1 + 1 + 1 := by omega
  have m8 : H.next + 1 + 1 + 1 + 1 ≠ H.next := by omega
  have m9 : H.next + 1 + 1 + 1 + 1 ≠ H.next + 1 := by omega
  simp
  refine does_use (hn _ s (by unfold PAt; simp [hp1]; exact h) hi) ?_
  rintro _ H1 ⟨rfl, rfl⟩
  have hi1 := hk.i s hi
  rcases hx : next s with ⟨⟨op, nm, n, po, ks⟩, s1⟩
  rw [hx] at hi1
  simp only at hi1
  simp [exCells_mk, hp1, hq1]
  refine does_use (p_one (W := W) (s := s1) (by unfold PAt; simp [hp2, hp3]) hi1 [[61], [60, 62], [60], [60, 61], [62], [62, 61]] (H.next + 1 + 1) 6 false (by simp) (by simp)) ?_
  rintro _ H2 ⟨rfl, rfl⟩
  by_cases ho : Syn.one W s1 [[61], [60, 62], [60], [60, 61], [62], [62, 61]] = true
  · have hk1 := one_kind ho
    simp [ho]
    refine does_use (p_part hW (W := W) (s := s1) (by unfold PAt; simp [hp2, hp3]) hi1) ?_
    rintro _ H3 ⟨rfl, rfl⟩
    have hi2 := part_ok hW hi1 hk1.2
    simp [wdCells, hp1, hp2, hp3, hp4, hq1, hq2, hq3, hq4, m1, m2, m3, m4]
    refine aw_drawn [(1, 0), (1, 8), (3, 0), (3, 8), (4, 0), (4, 8)] mixedOrders (by kernel_rfl) ?_
    intro es hes
    simp [hp1, hp2, hp3, hp4, hq1, hq2, hq3, hq4, m1, m2, m3, m4]
    refine ⟨_, _, hn _ (Syn.part W s1) (by unfold PAt; simp [hp4]) hi2, by simp, ?_⟩
    rcases hy : next (Syn.part W s1) with ⟨⟨op2, nm2, n2, po2, ks2⟩, s4⟩
    simp [exCells_mk, hp1, hp2, hp3, hp4, hp5, hq1, hq2, hq3, hq4, hq5, m1, m2, m3, m4, m5, m6, m7, m8, m9, rds, heapF]
    refine ⟨?_, ?_, ?_, ?_⟩
    · subst hes
      exact ⟨by kernel_rfl, by kernel_rfl⟩
    · simp [Syn.cmp, hx, ho, hy]
      rw [exCells_mk]
      refine .agg (.cons (.old rfl) (.cons (.old rfl) (.cons (.old rfl) (.cons (.old rfl) (.cons ?_ .nil)))))
      have hkk : kidsV [Syn.Ex.mk op nm n po ks, Syn.Ex.mk op2 nm2 n2 po2 ks2] = .vsl (exsCells [Syn.Ex.mk op nm n po ks, Syn.Ex.mk op2 nm2 n2 po2 ks2]) 2 := rfl
      rw [hkk]
      refine .sl (cs := exsCells [Syn.Ex.mk op nm n po ks, Syn.Ex.mk op2 nm2 n2 po2 ks2]) (by omega) ?_ ?_
      · simp [exsCells, exCells_mk, hp5, hq5, m1, m2, m3, m4, m5, m6, m7, m8, m9]
      · simp only [exsCells, exCells_mk]
        exact .old (by simp [AV.allLt, AV.idLt, kidsV_lt])
    · simp [Syn.cmp, hx, ho, hy, hp1, hp2, hp3, hp4, hp5]
    · intro j x hjp hj
      obtain ⟨k1, k2, k3, k4, k5⟩ := old j x hj
      simp [hj, hjp, k1, k2, k3, k4, k5]
  · have ho' : Syn.one W s1 [[61], [60, 62], [60], [60, 61], [62], [62, 61]] = false := by simpa using ho
    simp [ho', hp1, hp2, hp3, hq1, hq2, hq3, m1, m2]
    refine ⟨?_, ?_, ?_⟩
    · simp [Syn.cmp, hx, ho']
      rw [exCells_mk]
      exact .old (by simp [AV.idLt, AV.allLt, kidsV_lt])
    · simp [Syn.cmp, hx, ho', hp1, hp2, hp3]
    · intro j x hjp hj
      obtain ⟨k1, k2, k3, k4, k5⟩ := old j x hj
      simp [hj, hjp, k1, k2, k3]
def ExAt (H : AHeap) (c n : Nat) (e : Syn.Ex) : Prop := ∃ (op nm : Bs) (k po : Int) (kv : AV), H.get c = some (.cells [.str op, .str nm, .int .i64 k, .int .i64 po, kv]) ∧ kv.scalar = true ∧ kv.cells = [kv] ∧ ResL H.get n [.str op, .str nm, .int .i64 k, .int .i64 po, kv] (exCells e)
set_option maxHeartbeats 4000000 in
set_option maxRecDepth 100000 in
theorem p_row {W : Syn.Ws} (hW : WsOk W) {p : Nat} {nf : FuncId} {d : Int} {next : Syn.P} (hn : Reads G W p nf d next) (hk : Keeps W next) (H : AHeap) (s : Syn.St) (h : PAt H p W s) (hi : s.i < W.length)
    (ts : List Bs) (j cap : Nat) (opn : Bool) (hj : H.get j = some (.cells (ts.map .str))) (hjp : j ≠ p) (hl : ts.length ≤ 1000) :
    Does Tryz.prog G 67 [.ptr p 0, .int .i64 d, .func (.func nf) [.ptr p 0] [], .sl j 0 1 ts.length cap opn] H fun r H' => r = .agg (exCells (Syn.row W next ts s).1) ∧ H' = H.set p (.cells (stCells W (Syn.row W next ts s).2)) := by
  refine PRes.deep h ?_
  refine Does.wf Tryz.call67 fun hw _ => ?_
  have old : ∀ j x, H.get j = some x → j < H.next := fun j x hj => next_lt hw hj
  refine does_f Tryz.call67 Tryz.func67 rfl (by simp [Tryz.f67]) ?_
  have hpl := old _ _ h
  have hjl := old _ _ hj
  have hp1 : p ≠ H.next := by omega
  have hp2 : p ≠ H.next + 1 := by omega
  have hq1 := Ne.symm hp1
  have hq2 := Ne.symm hp2
  have hj1 : j ≠ H.next := by omega
  have hj2 : j ≠ H.next + 1 := by omega
  have m1 : H.next ≠ H.next + 1 := by omega
  simp
  refine does_use (hn _ s (by unfold PAt; simp [hp1]; exact h) hi) ?_
  rintro _ H1 ⟨rfl, rfl⟩
  have hi1 := hk.i s hi
  rcases hx : next s with ⟨⟨op, nm, n, po, ks⟩, s1⟩
  rw [hx] at hi1
  simp only at hi1
  simp [exCells_mk, hp1, hq1]
  refine aws_loopw (fun m T' H' => ∃ e s', Syn.rowL W next ts m e s' = Syn.rowL W next ts (W.length + 1) (.mk op nm n po ks) s1 ∧ mu W s' < m ∧ s'.i < W.length ∧
    T' 0 = .ptr p 0 ∧ T' 1 = .int .i64 d ∧ T' 2 = .func (.func nf) [.ptr p 0] [] ∧ T' 3 = .sl j 0 1 ts.length cap opn ∧ T' 8 = .ptr H.next 0 ∧ T' 9 = .ptr (H.next + 1) 0 ∧ PAt H' p W s' ∧ ExAt H' (H.next + 1) (H.next + 2) e ∧
    H'.get H.next = some (.cells [.str [], .str [], .int .i64 0, .int .i64 0, .nilsl]) ∧ (∀ x y, x ≠ p → H.get x = some y → H'.get x = some y)) (W.length + 1) ?_ ?_
  · refine ⟨_, _, rfl, ?_, hi1, by simp, by simp, by simp, by simp, by simp, by simp, by unfold PAt; simp [hp2], ?_, by simp [hp1, hq1], fun x y hxp hxy => ?_⟩
    · unfold mu; split <;> omega
    · refine ⟨op, nm, n, po, kidsV ks, by simp, by simp, by simp, ?_⟩
      rw [exCells_mk]
      exact .old (by simp [AV.idLt, AV.allLt, kidsV_lt])
    · have := old x y hxy
      have k1 : x ≠ H.next := by omega
      have k2 : x ≠ H.next + 1 := by omega
      simp [hxy, hxp, k1, k2]
  rintro m T H1 ⟨e, s', hrow, hmu, hi', t0, t1, t2, t3, t8, t9, hP, ⟨eo, en, ek, ep, kv, hE, hkv1, hkv2, hres⟩, hZ, hkeep⟩ hw1 _
  have hjj := hkeep _ _ hjp hj
  have hN := next_lt hw1 hE
  have hp3 : p ≠ H1.next := by omega
  have hp4 : p ≠ H1.next + 1 := by omega
  have hq3 := Ne.symm hp3
  have hq4 := Ne.symm hp4
  have n1 : H.next ≠ H1.next := by omega
  have n2 : H.next + 1 ≠ H1.next := by omega
  have n3 : H.next ≠ H1.next + 1 := by omega
  have n4 : H.next + 1 ≠ H1.next + 1 := by omega
  have n5 := Ne.symm n1
  have n6 := Ne.symm n2
  have n7 := Ne.symm n3
  have n8 := Ne.symm n4
  obtain ⟨k, rfl⟩ : ∃ k, m = k + 1 := ⟨m - 1, by omega⟩
  simp [t0, t1, t2, t3, t8, t9]
  refine does_use (p_one hP hi' ts j cap opn hjj hl) ?_
  rintro _ H2 ⟨rfl, rfl⟩
  by_cases ho : Syn.one W s' ts = true
  · have hk1 := one_kind ho
    simp [ho, t0, t1, t2, t3, t8, t9]
    refine does_use (p_part hW hP hi') ?_
    rintro _ H3 ⟨rfl, rfl⟩
    have hi2 := part_ok hW hi' hk1.2
    simp [wdCells, t0, t1, t2, t3, t8, t9, hp3, hq3]
    refine aw_drawn [(1, 0), (1, 8), (3, 0), (3, 8), (4, 0), (4, 8)] mixedOrders (by kernel_rfl) ?_
    intro es hes
    simp [t0, t1, t2, t3, t8, t9, hp1, hp2, hp3, hq1, hq2, hq3, n1, n2, n5, n6, hE]
    refine ⟨_, _, hn _ (Syn.part W s') (by unfold PAt; simp [hp3]) hi2, by simp, ?_⟩
    have hi4 := hk.i (Syn.part W s') hi2
    have hm4 := hk.mu (Syn.part W s') hi2
    rcases hy : next (Syn.part W s') with ⟨⟨op2, nm2, n2', po2, ks2⟩, s4⟩
    rw [hy] at hi4 hm4
    simp only at hi4 hm4
    simp [exCells_mk, t0, t1, t2, t3, t8, t9, hp1, hp2, hp3, hp4, hq1, hq2, hq3, hq4, n1, n2, n3, n4, n5, n6, n7, n8, hE, hkv1, hkv2, hZ, rds, heapF]
    refine ⟨?_, ?_⟩
    · subst hes
      exact ⟨by kernel_rfl, by kernel_rfl⟩
    have hm5 := part_mu hi' hk1.1
    have hlt1 := old _ _ h
    refine ⟨k, by omega, .mk (Syn.at_ W s').2.text [] 0 (Syn.at_ W s').1 [e, .mk op2 nm2 n2' po2 ks2], s4, by rw [← hrow]; simp [Syn.rowL, ho, hy], by omega, hi4, ?_, ?_, ?_⟩
    · unfold PAt
      simp [hp2, hp3, hp4]
    · refine ⟨_, _, _, _, _, by simp; exact ⟨rfl, rfl, rfl, rfl, rfl⟩, rfl, rfl, ?_⟩
      rw [exCells_mk]
      refine .cons (.old rfl) (.cons (.old rfl) (.cons (.old rfl) (.cons (.old rfl) (.cons ?_ .nil))))
      have hkk : kidsV [e, Syn.Ex.mk op2 nm2 n2' po2 ks2] = .vsl (exsCells [e, Syn.Ex.mk op2 nm2 n2' po2 ks2]) 2 := rfl
      rw [hkk]
      refine .sl (cs := [AV.str eo, AV.str en, AV.int IntKind.i64 ek, AV.int IntKind.i64 ep, kv, AV.str op2, AV.str nm2, AV.int IntKind.i64 ↑n2', AV.int IntKind.i64 ↑po2, kidsV ks2]) (by omega) (by simp [n1, n2, n3, n4, n5, n6, n7, n8, hp4, hq4]) ?_
      simp only [exsCells, List.append_nil]
      have hr2 := ResL.mono (g' := ((((((H2.set p (AObj.cells (stCells W (Syn.part W s')))).push (AObj.cells [AV.int IntKind.i64 0, AV.str [], AV.int IntKind.i64 0, AV.int IntKind.i64 0])).set H2.next (AObj.cells [AV.int IntKind.i64 ↑(Syn.at_ W s').snd.kind, AV.str (Syn.at_ W s').snd.text, AV.int IntKind.i64 ↑(Syn.at_ W s').snd.n, AV.int IntKind.i64 ↑(Syn.at_ W s').fst])).set p (AObj.cells (stCells W s4))).push (AObj.cells [AV.str eo, AV.str en, AV.int IntKind.i64 ek, AV.int IntKind.i64 ep, kv, AV.str op2, AV.str nm2, AV.int IntKind.i64 ↑n2', AV.int IntKind.i64 ↑po2, kidsV ks2])).set (H.next + 1) (AObj.cells [AV.str (Syn.at_ W s').snd.text, AV.str [], AV.int IntKind.i64 0, AV.int IntKind.i64 ↑(Syn.at_ W s').fst, AV.sl (H2.next + 1) 0 5 2 2 false])).get) (fun i cs hi hc => by
        have := next_lt hw1 hc
        have k1 : i ≠ H.next + 1 := by omega
        have k2 : i ≠ H2.next := by omega
        have k3 : i ≠ H2.next + 1 := by omega
        have k4 : i ≠ p := by omega
        simp [k1, k2, k3, k4, hc]) hres
      have hr3 : ResL ((((((H2.set p (AObj.cells (stCells W (Syn.part W s')))).push (AObj.cells [AV.int IntKind.i64 0, AV.str [], AV.int IntKind.i64 0, AV.int IntKind.i64 0])).set H2.next (AObj.cells [AV.int IntKind.i64 ↑(Syn.at_ W s').snd.kind, AV.str (Syn.at_ W s').snd.text, AV.int IntKind.i64 ↑(Syn.at_ W s').snd.n, AV.int IntKind.i64 ↑(Syn.at_ W s').fst])).set p (AObj.cells (stCells W s4))).push (AObj.cells [AV.str eo, AV.str en, AV.int IntKind.i64 ek, AV.int IntKind.i64 ep, kv, AV.str op2, AV.str nm2, AV.int IntKind.i64 ↑n2', AV.int IntKind.i64 ↑po2, kidsV ks2])).set (H.next + 1) (AObj.cells [AV.str (Syn.at_ W s').snd.text, AV.str [], AV.int IntKind.i64 0, AV.int IntKind.i64 ↑(Syn.at_ W s').fst, AV.sl (H2.next + 1) 0 5 2 2 false])).get (H.next + 2) [.str op2, .str nm2, .int .i64 n2', .int .i64 po2, kidsV ks2] (exCells (.mk op2 nm2 n2' po2 ks2)) := by
        rw [exCells_mk]
        exact .old (by simp [AV.allLt, AV.idLt, kidsV_lt])
      exact hr2.append hr3
    · intro x y hxp hxy
      have := old x y hxy
      have k1 : x ≠ H.next + 1 := by omega
      have k2 : x ≠ H2.next := by omega
      have k3 : x ≠ H2.next + 1 := by omega
      simp [hxp, k1, k2, k3, hkeep x y hxp hxy]
  · have ho' : Syn.one W s' ts = false := by simpa using ho
    have hfin : Syn.row W next ts s = (e, s') := by
      simp only [Syn.row, hx]
      rw [← hrow]
      simp [Syn.rowL, ho']
    simp [ho', t0, t1, t2, t3, t8, t9, hE, hZ, hkv1, hkv2, m1]
    refine ⟨?_, ?_, ?_⟩
    · rw [hfin]
      refine .agg (ResL.down (n := H.next + 2) (by omega) (ResL.mono (fun i cs hi hc => ?_) hres) (exCells_lt _ _))
      have : i ≠ H.next := by omega
      simp [this, hc]
    · rw [hfin]
      simp [hp1]
      exact hP
    · intro x y hxp hxy
      have := old x y hxy
      have k1 : x ≠ H.next := by omega
      simp [k1, hkeep x y hxp hxy]
end Go.Proofs.YtbakbednenfofaaGreatDoor

namespace Go.Proofs.YtbakbednenfofaaGreatDoor
open Go Go.Abs Go.Lex
set_option linter.unusedSimpArgs false
variable {G : Nat → Option AV}
theorem mu_fail (W : Syn.Ws) {e : Nat} (he : e ≠ 0) (s : Syn.St) : mu W (Syn.fail W e s) ≤ mu W s := by
  have := fail_err W he s
  unfold mu
  rw [if_neg this]
  omega
theorem mu_succ (W : Syn.Ws) (s : Syn.St) : mu W { s with i := s.i + 1 } ≤ mu W s := by
  unfold mu
  simp only
  split <;> omega
theorem take_mu (W : Syn.Ws) (s : Syn.St) (t : Bs) : mu W (Syn.take W s t).2 ≤ mu W s := by
  unfold Syn.take
  split
  · exact mu_succ W s
  · exact Nat.le_refl _
theorem want1_mu (W : Syn.Ws) (s : Syn.St) (t : Bs) : mu W (Syn.want1 W s t) ≤ mu W s := by
  unfold Syn.want1
  split
  · exact mu_succ W s
  · exact mu_fail W (by omega) s
theorem name_mu (W : Syn.Ws) (s : Syn.St) : mu W (Syn.name W s).2 ≤ mu W s := by
  unfold Syn.name
  by_cases hk : Syn.kind W s = 1
  · simp only [hk, if_true]
    split
    · exact mu_succ W s
    · exact Nat.le_refl _
  · simp only [hk, if_false]
    rw [if_neg (fail_err W (by omega) s)]
    exact mu_fail W (by omega) s
theorem deeper_mu (W : Syn.Ws) (b : Bool) (s : Syn.St) : mu W (Syn.deeper W b s).2 ≤ mu W s := by
  unfold Syn.deeper
  simp only
  split
  · exact mu_fail W (by omega) s
  · exact Nat.le_refl _
theorem part_mu' {W : Syn.Ws} (s : Syn.St) : mu W (Syn.part W s) ≤ mu W s := by
  by_cases h0 : s.err = 0
  · by_cases hi : s.i < W.length
    · exact Nat.le_of_lt (part_mu hi h0)
    · unfold Syn.part
      simp only
      by_cases hc : 300 < Syn.wrap (s.parts + 1)
      · simp only [hc, if_true]
        have := fail_err W (e := 2) (by omega) { s with parts := Syn.wrap (s.parts + 1) }
        rw [if_neg this]
        unfold mu
        rw [if_neg this]
        omega
      · simp only [hc, if_false, h0, if_true]
        unfold mu
        simp only [h0, if_true]
        omega
  · unfold Syn.part
    simp only
    by_cases hc : 300 < Syn.wrap (s.parts + 1)
    · simp only [hc, if_true]
      have := fail_err W (e := 2) (by omega) { s with parts := Syn.wrap (s.parts + 1) }
      rw [if_neg this]
      unfold mu
      rw [if_neg this]
      omega
    · simp only [hc, if_false, h0]
      unfold mu
      simp only [h0, if_false]
      omega
set_option maxHeartbeats 4000000 in
set_option maxRecDepth 100000 in
theorem p_when {W : Syn.Ws} (hW : WsOk W) {p : Nat} {d : Int} {next : Syn.P} (hn : Reads G W p 120 d next) (hk : Keeps W next) : Reads G W p 119 d (Syn.when_ W next) := by
  intro H s h hi
  refine PRes.deep h ?_
  refine Does.wf Tryz.call119 fun hw _ => ?_
  have old : ∀ j x, H.get j = some x → j < H.next := fun j x hj => next_lt hw hj
  refine does_f Tryz.call119 Tryz.func119 rfl (by simp [Tryz.f119]) ?_
  have hpl := old _ _ h
  have hp1 : p ≠ H.next := by omega
  have hp2 : p ≠ H.next + 1 := by omega
  have hq1 := Ne.symm hp1
  have hq2 := Ne.symm hp2
  have m1 : H.next ≠ H.next + 1 := by omega
  simp
  refine does_use (hn _ s (by unfold PAt; simp [hp1]; exact h) hi) ?_
  rintro _ H1 ⟨rfl, rfl⟩
  have hi1 := hk.i s hi
  rcases hx : next s with ⟨⟨op, nm, n, po, ks⟩, s1⟩
  rw [hx] at hi1
  simp only at hi1
  simp [exCells_mk, hp1, hq1]
  refine aws_loopw (fun m T' H' => ∃ e s', Syn.whenL W m e s' = Syn.whenL W (W.length + 1) (.mk op nm n po ks) s1 ∧ mu W s' < m ∧ s'.i < W.length ∧
    T' 0 = .ptr p 0 ∧ T' 1 = .int .i64 d ∧ T' 4 = .ptr H.next 0 ∧ T' 5 = .ptr (H.next + 1) 0 ∧ PAt H' p W s' ∧ ExAt H' (H.next + 1) (H.next + 2) e ∧
    H'.get H.next = some (.cells [.str [], .str [], .int .i64 0, .int .i64 0, .nilsl]) ∧ (∀ x y, x ≠ p → H.get x = some y → H'.get x = some y)) (W.length + 1) ?_ ?_
  · refine ⟨_, _, rfl, ?_, hi1, by simp, by simp, by simp, by simp, by unfold PAt; simp [hp2], ?_, by simp [hp1, hq1], fun x y hxp hxy => ?_⟩
    · unfold mu; split <;> omega
    · refine ⟨op, nm, n, po, kidsV ks, by simp, by simp, by simp, ?_⟩
      rw [exCells_mk]
      exact .old (by simp [AV.idLt, AV.allLt, kidsV_lt])
    · have := old x y hxy
      have k1 : x ≠ H.next := by omega
      have k2 : x ≠ H.next + 1 := by omega
      simp [hxy, hxp, k1, k2]
  rintro m T H1 ⟨e, s', hrow, hmu, hi', t0, t1, t4, t5, hP, ⟨eo, en, ek, ep, kv, hE, hkv1, hkv2, hres⟩, hZ, hkeep⟩ hw1 _
  have hN := next_lt hw1 hE
  have hp3 : p ≠ H1.next := by omega
  have hp4 : p ≠ H1.next + 1 := by omega
  have hq3 := Ne.symm hp3
  have hq4 := Ne.symm hp4
  have n1 : H.next ≠ H1.next := by omega
  have n2 : H.next + 1 ≠ H1.next := by omega
  have n3 : H.next ≠ H1.next + 1 := by omega
  have n4 : H.next + 1 ≠ H1.next + 1 := by omega
  have n5 := Ne.symm n1
  have n6 := Ne.symm n2
  have n7 := Ne.symm n3
  have n8 := Ne.symm n4
  obtain ⟨k, rfl⟩ : ∃ k, m = k + 1 := ⟨m - 1, by omega⟩
  simp [t0, t1, t4, t5]
  refine does_use (p_is hP hi' [119, 104, 101, 110]) ?_
  rintro _ H2 ⟨rfl, rfl⟩
  by_cases ho : Syn.is W s' [119, 104, 101, 110] = true
  · have hk1 := is_kind ho
    simp [ho, t0, t1, t4, t5]
    refine does_use (p_part hW hP hi') ?_
    rintro _ H3 ⟨rfl, rfl⟩
    have hi2 := part_ok hW hi' hk1.2
    have hm5 := part_mu hi' hk1.1
    simp [wdCells, t0, t1, t4, t5, hp3, hq3]
    refine does_use (p_take hW (W := W) (s := Syn.part W s') (by unfold PAt; simp [hp3]) hi2 [110, 111, 116]) ?_
    rintro _ H3 ⟨rfl, rfl⟩
    have hi3 := take_ok hW hi2 [110, 111, 116]
    have hm6 := take_mu W (Syn.part W s') [110, 111, 116]
    rcases htk : Syn.take W (Syn.part W s') [110, 111, 116] with ⟨b, s2⟩
    rw [htk] at hi3 hm6
    simp only at hi3 hm6
    have hi4 := name_ok hW hi3
    have hm7 := name_mu W s2
    rcases hnm : Syn.name W s2 with ⟨nm2, s4⟩
    rw [hnm] at hi4 hm7
    simp only at hi4 hm7
    obtain ⟨nn, hnn⟩ : ∃ nn : Nat, nn = if b then 0 else 1 := ⟨_, rfl⟩
    cases b
    all_goals
      simp at hnn
      simp [t0, t1, t4, t5, hp3, hq3]
      refine aw_drawn [(4, 0), (4, 2), (5, 0), (5, 2)] mixedOrders (by kernel_rfl) ?_
      intro es hes
      simp [t0, t1, t4, t5, hp1, hp2, hp3, hq1, hq2, hq3, n1, n2, n5, n6, hE]
      refine ⟨_, _, p_name hW (W := W) (s := s2) (by unfold PAt; simp) hi3, by simp, ?_⟩
      simp [hnm, exCells_mk, t0, t1, t4, t5, hp1, hp2, hp3, hp4, hq1, hq2, hq3, hq4, n1, n2, n3, n4, n5, n6, n7, n8, hE, hkv1, hkv2, hZ, rds, heapF]
      refine ⟨?_, ?_⟩
      · subst hes
        exact ⟨by kernel_rfl, by kernel_rfl⟩
      refine ⟨k, by omega, .mk [119, 104, 101, 110] nm2 nn (Syn.at_ W s').1 [e], s4, by rw [← hrow]; simp [Syn.whenL, ho, htk, hnm, hnn], by omega, hi4, ?_, ?_, ?_⟩
      · unfold PAt
        simp [hp2, hp3, hp4]
      · refine ⟨_, _, _, _, _, by simp; exact ⟨rfl, rfl, rfl, rfl, rfl⟩, rfl, rfl, ?_⟩
        rw [exCells_mk, hnn]
        refine .cons (.old rfl) (.cons (.old rfl) (.cons (.old rfl) (.cons (.old rfl) (.cons ?_ .nil))))
        have hkk : kidsV [e] = .vsl (exsCells [e]) 1 := rfl
        rw [hkk]
        refine .sl (cs := [AV.str eo, AV.str en, AV.int IntKind.i64 ek, AV.int IntKind.i64 ep, kv]) (by omega) (by simp [n1, n2, n3, n4, n5, n6, n7, n8, hp4, hq4]) ?_
        simp only [exsCells, List.append_nil]
        refine ResL.mono (fun i cs hi hc => ?_) hres
        have := next_lt hw1 hc
        have k1 : i ≠ H.next + 1 := by omega
        have k2 : i ≠ H2.next := by omega
        have k3 : i ≠ H2.next + 1 := by omega
        have k4 : i ≠ p := by omega
        simp [k1, k2, k3, k4, hc]
      · intro x y hxp hxy
        have := old x y hxy
        have k1 : x ≠ H.next + 1 := by omega
        have k2 : x ≠ H2.next := by omega
        have k3 : x ≠ H2.next + 1 := by omega
        simp [hxp, k1, k2, k3, hkeep x y hxp hxy]
  · have ho' : Syn.is W s' [119, 104, 101, 110] = false := by simpa using ho
    have hfin : Syn.when_ W next s = (e, s') := by
      simp only [Syn.when_, hx]
      rw [← hrow]
      simp [Syn.whenL, ho']
    simp [ho', t0, t1, t4, t5, hE, hZ, hkv1, hkv2, m1]
    refine ⟨?_, ?_, ?_⟩
    · rw [hfin]
      refine .agg (ResL.down (n := H.next + 2) (by omega) (ResL.mono (fun i cs hi hc => ?_) hres) (exCells_lt _ _))
      have : i ≠ H.next := by omega
      simp [this, hc]
    · rw [hfin]
      simp [hp1]
      exact hP
    · intro x y hxp hxy
      have := old x y hxy
      have k1 : x ≠ H.next := by omega
      simp [k1, hkeep x y hxp hxy]
end Go.Proofs.YtbakbednenfofaaGreatDoor
