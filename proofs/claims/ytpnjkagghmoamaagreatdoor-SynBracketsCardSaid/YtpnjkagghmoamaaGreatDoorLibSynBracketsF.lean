/-
  Own library of this claim, part 6: texts one behind the other (BrG, BrH, BrI, LxE, LxO, SyB, SyO, SyL, BrL, BrM).
-/
import Derived.Test.YtpnjkagghmoamaaGreatDoorLibSynBracketsE

namespace Go.Proofs.YtpnjkagghmoamaaGreatDoor
open Go Go.Abs Go.Lex
open Go.Syn (Ex Nd Eqn Va)
set_option linter.unusedSimpArgs false
set_option linter.unusedVariables false
variable {G : Nat → Option AV}
mutual
def sameE : Ex → Ex → Bool
  | .mk op nm n _ ks, .mk op' nm' n' _ ks' => op == op' && (nm == nm' && (n == n' && sameEs ks ks'))
def sameEs : List Ex → List Ex → Bool
  | [], [] => true
  | [], _ :: _ => false
  | _ :: _, [] => false
  | a :: l, b :: m => sameE a b && sameEs l m
end
mutual
theorem sameE_er : ∀ a b : Ex, sameE a b = true ↔ a.er = b.er
  | .mk op nm n p ks, .mk op' nm' n' p' ks' => by
    have := sameEs_er ks ks'
    simp only [sameE, Bool.and_eq_true, beq_iff_eq, this, Syn.Ex.er, Ex.mk.injEq, true_and]
theorem sameEs_er : ∀ a b : List Ex, sameEs a b = true ↔ Ex.ers a = Ex.ers b
  | [], [] => by simp [sameEs, Syn.Ex.ers]
  | [], _ :: _ => by simp [sameEs, Syn.Ex.ers]
  | _ :: _, [] => by simp [sameEs, Syn.Ex.ers]
  | a :: l, b :: m => by
    have h1 := sameE_er a b
    have h2 := sameEs_er l m
    simp only [sameEs, Bool.and_eq_true, h1, h2, Syn.Ex.ers, List.cons.injEq]
end
theorem sameEs_len : ∀ a b : List Ex, a.length ≠ b.length → sameEs a b = false
  | [], [], h => absurd rfl h
  | [], _ :: _, _ => rfl
  | _ :: _, [], _ => rfl
  | a :: l, b :: m, h => by
    rw [sameEs, sameEs_len l m (by simpa using h), Bool.and_false]
theorem sameEs_drop {a b : List Ex} {i : Nat} {x y : Ex} (ha : a[i]? = some x) (hb : b[i]? = some y) : sameEs (a.drop i) (b.drop i) = (sameE x y && sameEs (a.drop (i + 1)) (b.drop (i + 1))) := by
  have e1 : a.drop i = x :: a.drop (i + 1) := by
    have hl : i < a.length := by
      rcases Nat.lt_or_ge i a.length with q | q
      · exact q
      · rw [List.getElem?_eq_none q] at ha; simp at ha
    rw [List.getElem?_eq_getElem hl] at ha
    rw [List.drop_eq_getElem_cons hl, Option.some.inj ha]
  have e2 : b.drop i = y :: b.drop (i + 1) := by
    have hl : i < b.length := by
      rcases Nat.lt_or_ge i b.length with q | q
      · exact q
      · rw [List.getElem?_eq_none q] at hb; simp at hb
    rw [List.getElem?_eq_getElem hl] at hb
    rw [List.drop_eq_getElem_cons hl, Option.some.inj hb]
  rw [e1, e2, sameEs]
def SameD (G : Nat → Option AV) (e : Ex) : Prop := ∀ e' H, Does Tryz.prog G 34 [.agg (exCells e), .agg (exCells e')] H fun r h => r = .bool (sameE e e') ∧ h = H
theorem bool_of {f : FuncId} {args : List AV} {H : AHeap} {t : Bool} (h : Does Tryz.prog G f args H fun r h => r = .bool t ∧ ∀ j x, H.get j = some x → h.get j = some x) : Does Tryz.prog G f args H fun r h => r = .bool t ∧ h = H :=
  Does.forgot h fun hw ha r H1 hr => ⟨hr.2, by rw [hr.1]; rfl, hr.1, rfl⟩
set_option maxHeartbeats 8000000 in
set_option maxRecDepth 100000 in
theorem eqf_ex {ks : List Ex} (hK : ∀ k ∈ ks, SameD G k) (h1 : ks.length ≤ 1000000000) (ks' : List Ex) (H : AHeap) :
    Does Tryz.prog G 66 [kidsV ks, kidsV ks', .func (.func 34) [] []] H fun r h => r = .bool (sameEs ks ks') ∧ h = H := by
  refine bool_of ?_
  refine Does.wf Tryz.call66 fun hw _ => ?_
  have old : ∀ j x, H.get j = some x → j < H.next := fun j x hj => next_lt hw hj
  refine does_f Tryz.call66 Tryz.func66 rfl (by simp [Tryz.f66]) ?_
  have hal : ∀ l : List Ex, alen Tryz.prog 64 (kidsV l) = some (.int .i64 l.length) := by
    intro l
    unfold kidsV
    cases l with
    | nil => rfl
    | cons e l => rfl
  simp [hal, -alen]
  by_cases hne : ks.length = ks'.length
  case neg =>
    have : ((ks.length : Int) != ks'.length) = true := by simp; omega
    simp [hal, this, sameEs_len _ _ hne, -alen]
  have hb : ((ks.length : Int) != ks'.length) = false := by simp; omega
  simp [hal, hb, -alen]
  refine aws_loopw (fun k T' H' => ∃ i : Nat, i + k = ks.length ∧ T' 15 = kidsV ks ∧ T' 16 = .int .i64 ks.length ∧ T' 17 = .int .i64 i ∧ T' 1 = kidsV ks' ∧ T' 2 = .func (.func 34) [] [] ∧ sameEs ks ks' = sameEs (ks.drop i) (ks'.drop i) ∧ ∀ j x, H.get j = some x → H'.get j = some x) ks.length ?_ ?_
  · exact ⟨0, by simp, by simp, by simp, by simp, by simp, by simp, by simp, fun j x hj => hj⟩
  rintro k T H1 ⟨i, hik, t15, t16, t17, t1, t2, hs, hk⟩ hw1 _
  by_cases hi : i < ks.length
  · have hii : (i : Int) < ks.length := by omega
    have hi' : i < ks'.length := by omega
    have he : ks[i]? = some ks[i] := List.getElem?_eq_getElem hi
    have he' : ks'[i]? = some (ks'[i]'(by omega)) := List.getElem?_eq_getElem (by omega)
    have hd := hK ks[i] (List.getElem_mem hi)
    generalize ks[i] = e at *
    generalize ks'[i]'(by omega) = e' at *
    have hat := exs_at he
    have hat' := exs_at he'
    have hlen := exsCells_len ks
    have hlen' := exsCells_len ks'
    have h5 : 5 ≤ (exsCells ks).length - i * 5 := by omega
    have h5' : 5 ≤ (exsCells ks').length - i * 5 := by omega
    have hkv : kidsV ks = .vsl (exsCells ks) ks.length := by unfold kidsV; rw [if_neg (by intro e0; rw [List.isEmpty_iff] at e0; rw [e0] at hi; simp at hi)]
    have hkv' : kidsV ks' = .vsl (exsCells ks') ks'.length := by unfold kidsV; rw [if_neg (by intro e0; rw [List.isEmpty_iff] at e0; rw [e0] at hi'; simp at hi')]
    rw [hkv] at t15
    rw [hkv'] at t1
    have wr : IntKind.i64.wrap ((i : Int) + 1) = ((i + 1 : Nat) : Int) := by rw [IntWalk.i64_in _ (by omega)]; omega
    rw [sameEs_drop he he'] at hs
    obtain ⟨op, nm, n, p, ks2⟩ := e
    obtain ⟨op', nm', n', p', ks2'⟩ := e'
    have hd' := hd (.mk op' nm' n' p' ks2')
    simp only [exCells_mk] at hd' hat hat'
    simp [t15, t16, t17, t1, t2, hi, hi', hii, h5, h5', hat, hat', -alen]
    refine does_use (hd' _) ?_
    rintro r h ⟨rfl, rfl⟩
    cases hc : sameE (.mk op nm n p ks2) (.mk op' nm' n' p' ks2') with
    | false =>
      rw [hc, Bool.false_and] at hs
      simp [hc, t15, t16, t17, t1, t2, -alen]
      refine ⟨hs, fun j x hj => ?_⟩
      have := next_lt hw1 (hk j x hj)
      have e1 : j ≠ H1.next := by omega
      have e2 : j ≠ H1.next + 1 := by omega
      simp [e1, e2, hk j x hj]
    | true =>
      rw [hc, Bool.true_and] at hs
      simp [hc, t15, t16, t17, t1, t2, -alen]
      refine ⟨k - 1, by omega, i + 1, by omega, hkv.symm, wr, hkv'.symm, hs, fun j x hj => ?_⟩
      have := next_lt hw1 (hk j x hj)
      have e1 : j ≠ H1.next := by omega
      have e2 : j ≠ H1.next + 1 := by omega
      simp [e1, e2, hk j x hj]
  · obtain rfl : i = ks.length := by omega
    simp [t15, t16, t17, -alen]
    refine ⟨?_, hk⟩
    rw [hs, List.drop_length, hne, List.drop_length]
    rfl
set_option maxHeartbeats 8000000 in
set_option maxRecDepth 100000 in
theorem same_of {op nm : Bs} {n p : Nat} {ks : List Ex} (hK : ∀ k ∈ ks, SameD G k) (hlen : ks.length ≤ 1000000000) : SameD G (.mk op nm n p ks) := fun e' H => by
  refine bool_of ?_
  refine Does.wf Tryz.call34 fun hw _ => ?_
  have old : ∀ j x, H.get j = some x → j < H.next := fun j x hj => next_lt hw hj
  obtain ⟨op', nm', n', p', ks'⟩ := e'
  rw [exCells_mk, exCells_mk]
  refine does_f Tryz.call34 Tryz.func34 rfl (by simp [Tryz.f34]) ?_
  simp [-alen]
  cases h1 : op == op' with
  | false =>
    simp [h1, sameE, -alen]
    intro j x hj
    have := old j x hj
    have e1 : j ≠ H.next := by omega
    have e2 : j ≠ H.next + 1 := by omega
    simp [e1, e2, hj]
  | true =>
    simp [h1, -alen]
    cases h2 : nm == nm' with
    | false =>
      simp [h1, h2, sameE, -alen]
      intro j x hj
      have := old j x hj
      have e1 : j ≠ H.next := by omega
      have e2 : j ≠ H.next + 1 := by omega
      simp [e1, e2, hj]
    | true =>
      simp [h1, h2, -alen]
      by_cases h3 : (n : Int) = n'
      case neg =>
        have h3' : (n == n') = false := by simp; omega
        simp [h1, h2, h3, h3', sameE, -alen]
        intro j x hj
        have := old j x hj
        have e1 : j ≠ H.next := by omega
        have e2 : j ≠ H.next + 1 := by omega
        simp [e1, e2, hj]
      case pos =>
        obtain rfl : n = n' := by omega
        simp [h1, h2, -alen]
        refine does_use (eqf_ex hK hlen ks' _) ?_
        rintro r h ⟨rfl, rfl⟩
        simp [h1, h2, sameE, -alen]
        intro j x hj
        have := old j x hj
        have e1 : j ≠ H.next := by omega
        have e2 : j ≠ H.next + 1 := by omega
        simp [e1, e2, hj]
mutual
theorem same_ex : ∀ e : Ex, e.wt ≤ 1000000000 → SameD G e
  | .mk op nm n pos ks, h => by
    have h : 1 + Ex.wts ks ≤ 1000000000 := by simpa [Syn.Ex.wt] using h
    have hlen : ks.length ≤ Ex.wts ks := wts_len ks
    exact same_of (same_all ks (by omega)) (by omega)
theorem same_all : ∀ ks : List Ex, Ex.wts ks ≤ 1000000000 → ∀ k ∈ ks, SameD G k
  | [], _, k, hk => by simp at hk
  | e :: l, h, k, hk => by
    have h : e.wt + Ex.wts l ≤ 1000000000 := by simpa [Syn.Ex.wts] using h
    have h1 := same_ex e (by omega)
    have h2 := same_all l (by omega)
    rcases List.mem_cons.1 hk with rfl | hk
    · exact h1
    · exact h2 k hk
end
end Go.Proofs.YtpnjkagghmoamaaGreatDoor

namespace Go.Proofs.YtpnjkagghmoamaaGreatDoor
open Go Go.Abs Go.Lex
open Go.Syn (Ex Nd Eqn Va)
set_option linter.unusedSimpArgs false
set_option linter.unusedVariables false
variable {G : Nat → Option AV}
def eqL {X : Type} (R : X → X → Bool) : List X → List X → Bool
  | [], [] => true
  | [], _ :: _ => false
  | _ :: _, [] => false
  | a :: l, b :: m => R a b && eqL R l m
theorem eqL_len {X : Type} {R : X → X → Bool} : ∀ a b : List X, a.length ≠ b.length → eqL R a b = false
  | [], [], h => absurd rfl h
  | [], _ :: _, _ => rfl
  | _ :: _, [], _ => rfl
  | a :: l, b :: m, h => by
    rw [eqL, eqL_len l m (by simpa using h), Bool.and_false]
theorem eqL_drop {X : Type} {R : X → X → Bool} {a b : List X} {i : Nat} {x y : X} (ha : a[i]? = some x) (hb : b[i]? = some y) : eqL R (a.drop i) (b.drop i) = (R x y && eqL R (a.drop (i + 1)) (b.drop (i + 1))) := by
  have e1 : a.drop i = x :: a.drop (i + 1) := by
    have hl : i < a.length := by
      rcases Nat.lt_or_ge i a.length with q | q
      · exact q
      · rw [List.getElem?_eq_none q] at ha; simp at ha
    rw [List.getElem?_eq_getElem hl] at ha
    rw [List.drop_eq_getElem_cons hl, Option.some.inj ha]
  have e2 : b.drop i = y :: b.drop (i + 1) := by
    have hl : i < b.length := by
      rcases Nat.lt_or_ge i b.length with q | q
      · exact q
      · rw [List.getElem?_eq_none q] at hb; simp at hb
    rw [List.getElem?_eq_getElem hl] at hb
    rw [List.drop_eq_getElem_cons hl, Option.some.inj hb]
  rw [e1, e2, eqL]
theorem eqL_map {X Y : Type} {R : X → X → Bool} {f : X → Y} : ∀ a b : List X, (∀ x y, R x y = true ↔ f x = f y) → (eqL R a b = true ↔ a.map f = b.map f)
  | [], [], _ => by simp [eqL]
  | [], _ :: _, _ => by simp [eqL]
  | _ :: _, [], _ => by simp [eqL]
  | a :: l, b :: m, h => by
    rw [eqL, Bool.and_eq_true, h, eqL_map l m h, List.map_cons, List.map_cons, List.cons.injEq]
def sameV (v w : Va) : Bool := v.name == w.name && (v.kind == w.kind && (v.on == w.on && v.neg == w.neg))
def sameQ (q s : Eqn) : Bool := q.name == s.name && sameE q.e s.e
def sameN (n m : Nd) : Bool := n.name == m.name && (eqL sameV n.ins m.ins && (eqL sameV n.outs m.outs && (eqL sameV n.locals m.locals && eqL sameQ n.eqs m.eqs)))
theorem sameV_er (v w : Va) : sameV v w = true ↔ v.er = w.er := by
  obtain ⟨a, b, c, d, e⟩ := v
  obtain ⟨a', b', c', d', e'⟩ := w
  simp [sameV, Syn.Va.er]
theorem sameQ_er (v w : Eqn) : sameQ v w = true ↔ v.er = w.er := by
  obtain ⟨a, b, c⟩ := v
  obtain ⟨a', b', c'⟩ := w
  simp [sameQ, Syn.Eqn.er, sameE_er]
theorem sameN_er (v w : Nd) : sameN v w = true ↔ v.er = w.er := by
  obtain ⟨a, b, c, d, e, f⟩ := v
  obtain ⟨a', b', c', d', e', f'⟩ := w
  simp only [sameN, Syn.Nd.er, Bool.and_eq_true, eqL_map _ _ sameV_er, eqL_map _ _ sameQ_er, beq_iff_eq, Nd.mk.injEq, and_true]
theorem va_take : ∀ {l : List Va} {i : Nat} {v : Va}, l[i]? = some v → ((vasCells l).drop (i * 5)).take 5 = vaCells v
  | [], i, v, h => by simp at h
  | a :: l, 0, v, h => by
    simp only [List.getElem?_cons_zero, Option.some.injEq] at h
    subst h
    have hl : (vaCells a).length = 5 := rfl
    simp only [Nat.zero_mul, List.drop_zero, vasCells]
    rw [List.take_append_of_le_length (by omega), List.take_of_length_le (by omega)]
  | a :: l, i + 1, v, h => by
    have hl : (vaCells a).length = 5 := rfl
    have := va_take (l := l) (i := i) (v := v) (by simpa using h)
    rw [vasCells, show (i + 1) * 5 = (vaCells a).length + i * 5 by omega, ← List.drop_drop, List.drop_left]
    exact this
set_option maxHeartbeats 8000000 in
set_option maxRecDepth 100000 in
theorem eqf_va {ks : List Va} (Hok : AHeap → Prop) (hup : ∀ H H', Hok H → (∀ j x, H.get j = some x → H'.get j = some x) → Hok H')
    (hK : ∀ x ∈ ks, ∀ y H, Hok H → Does Tryz.prog G 32 (.agg (vaCells x) :: .agg (vaCells y) :: []) H fun r h => r = .bool (sameV x y) ∧ h = H)
    (h1 : ks.length ≤ 1000000000) (ks' : List Va) (H : AHeap) (hok : Hok H) :
    Does Tryz.prog G 37 [vsV ks, vsV ks', .func (.func 32) [] []] H fun r h => r = .bool (eqL sameV ks ks') ∧ h = H := by
  refine bool_of ?_
  refine Does.wf Tryz.call37 fun hw _ => ?_
  have old : ∀ j x, H.get j = some x → j < H.next := fun j x hj => next_lt hw hj
  refine does_f Tryz.call37 Tryz.func37 rfl (by simp [Tryz.f37]) ?_
  have hal : ∀ l : List Va, alen Tryz.prog 38 (vsV l) = some (.int .i64 l.length) := by
    intro l
    unfold vsV
    cases l with
    | nil => rfl
    | cons e l => rfl
  have hsc : ∀ l : List Va, (vsV l).scalar = true := by
    intro l; unfold vsV; split <;> rfl
  simp [hal, hsc, -alen]
  by_cases hne : ks.length = ks'.length
  case neg =>
    have : ((ks.length : Int) != ks'.length) = true := by simp; omega
    simp [hal, this, eqL_len _ _ hne, -alen]
  have hb : ((ks.length : Int) != ks'.length) = false := by simp; omega
  simp [hal, hb, -alen]
  refine aws_loopw (fun k T' H' => ∃ i : Nat, i + k = ks.length ∧ T' 15 = vsV ks ∧ T' 16 = .int .i64 ks.length ∧ T' 17 = .int .i64 i ∧ T' 1 = vsV ks' ∧ T' 2 = .func (.func 32) [] [] ∧ eqL sameV ks ks' = eqL sameV (ks.drop i) (ks'.drop i) ∧ ∀ j x, H.get j = some x → H'.get j = some x) ks.length ?_ ?_
  · exact ⟨0, by simp, by simp, by simp, by simp, by simp, by simp, by simp, fun j x hj => hj⟩
  rintro k T H1 ⟨i, hik, t15, t16, t17, t1, t2, hs, hk⟩ hw1 _
  by_cases hi : i < ks.length
  · have hii : (i : Int) < ks.length := by omega
    have hi' : i < ks'.length := by omega
    have he : ks[i]? = some ks[i] := List.getElem?_eq_getElem hi
    have he' : ks'[i]? = some (ks'[i]'(by omega)) := List.getElem?_eq_getElem (by omega)
    have hd := hK ks[i] (List.getElem_mem hi)
    generalize ks[i] = e at *
    generalize ks'[i]'(by omega) = e' at *
    have hat := va_take he
    have hat' := va_take he'
    have hlen := vasCells_len ks
    have hlen' := vasCells_len ks'
    have h5 : 5 ≤ (vasCells ks).length - i * 5 := by omega
    have h5' : 5 ≤ (vasCells ks').length - i * 5 := by omega
    have hkv : vsV ks = .vsl (vasCells ks) ks.length := by unfold vsV; rw [if_neg (by intro e0; rw [List.isEmpty_iff] at e0; rw [e0] at hi; simp at hi)]
    have hkv' : vsV ks' = .vsl (vasCells ks') ks'.length := by unfold vsV; rw [if_neg (by intro e0; rw [List.isEmpty_iff] at e0; rw [e0] at hi'; simp at hi')]
    rw [hkv] at t15
    rw [hkv'] at t1
    have wr : IntKind.i64.wrap ((i : Int) + 1) = ((i + 1 : Nat) : Int) := by rw [IntWalk.i64_in _ (by omega)]; omega
    rw [eqL_drop he he'] at hs
    generalize hc : sameV e e' = c at *
    have hd' := hd e'
    obtain ⟨nm, kd, on, ng, pos⟩ := e
    obtain ⟨nm', kd', on', ng', pos'⟩ := e'
    simp only [hc, vaCells] at hd' hat hat'
    simp [t15, t16, t17, t1, t2, hi, hi', hii, h5, h5', hat, hat', hsc, -alen]
    refine does_use (hd' _ (hup _ _ hok fun j x hj => ?_)) ?_
    · have := next_lt hw1 (hk j x hj)
      have e1 : j ≠ H1.next := by omega
      have e2 : j ≠ H1.next + 1 := by omega
      simp [e1, e2, hk j x hj]
    rintro r h ⟨rfl, rfl⟩
    cases c with
    | false =>
      rw [Bool.false_and] at hs
      simp [t15, t16, t17, t1, t2, hsc, -alen]
      refine ⟨hs, fun j x hj => ?_⟩
      have := next_lt hw1 (hk j x hj)
      have e1 : j ≠ H1.next := by omega
      have e2 : j ≠ H1.next + 1 := by omega
      simp [e1, e2, hk j x hj]
    | true =>
      rw [Bool.true_and] at hs
      simp [t15, t16, t17, t1, t2, hsc, -alen]
      refine ⟨k - 1, by omega, i + 1, by omega, hkv.symm, wr, hkv'.symm, hs, fun j x hj => ?_⟩
      have := next_lt hw1 (hk j x hj)
      have e1 : j ≠ H1.next := by omega
      have e2 : j ≠ H1.next + 1 := by omega
      simp [e1, e2, hk j x hj]
  · obtain rfl : i = ks.length := by omega
    simp [t15, t16, t17, -alen]
    refine ⟨?_, hk⟩
    rw [hs, List.drop_length, hne, List.drop_length]
    rfl
theorem eq_take : ∀ {l : List Eqn} {i : Nat} {v : Eqn}, l[i]? = some v → ((eqsCells l).drop (i * 7)).take 7 = eqCells v
  | [], i, v, h => by simp at h
  | a :: l, 0, v, h => by
    simp only [List.getElem?_cons_zero, Option.some.injEq] at h
    subst h
    have hl : (eqCells a).length = 7 := eqCells_len a
    simp only [Nat.zero_mul, List.drop_zero, eqsCells]
    rw [List.take_append_of_le_length (by omega), List.take_of_length_le (by omega)]
  | a :: l, i + 1, v, h => by
    have hl : (eqCells a).length = 7 := eqCells_len a
    have := eq_take (l := l) (i := i) (v := v) (by simpa using h)
    rw [eqsCells, show (i + 1) * 7 = (eqCells a).length + i * 7 by omega, ← List.drop_drop, List.drop_left]
    exact this
set_option maxHeartbeats 8000000 in
set_option maxRecDepth 100000 in
theorem eqf_eq {ks : List Eqn} (Hok : AHeap → Prop) (hup : ∀ H H', Hok H → (∀ j x, H.get j = some x → H'.get j = some x) → Hok H')
    (hK : ∀ x ∈ ks, ∀ y H, Hok H → Does Tryz.prog G 33 (.agg (eqCells x) :: .agg (eqCells y) :: []) H fun r h => r = .bool (sameQ x y) ∧ h = H)
    (h1 : ks.length ≤ 1000000000) (ks' : List Eqn) (H : AHeap) (hok : Hok H) :
    Does Tryz.prog G 38 [eqsV ks, eqsV ks', .func (.func 33) [] []] H fun r h => r = .bool (eqL sameQ ks ks') ∧ h = H := by
  refine bool_of ?_
  refine Does.wf Tryz.call38 fun hw _ => ?_
  have old : ∀ j x, H.get j = some x → j < H.next := fun j x hj => next_lt hw hj
  refine does_f Tryz.call38 Tryz.func38 rfl (by simp [Tryz.f38]) ?_
  have hal : ∀ l : List Eqn, alen Tryz.prog 39 (eqsV l) = some (.int .i64 l.length) := by
    intro l
    unfold eqsV
    cases l with
    | nil => rfl
    | cons e l => rfl
  have hsc : ∀ l : List Eqn, (eqsV l).scalar = true := by
    intro l; unfold eqsV; split <;> rfl
  simp [hal, hsc, -alen]
  by_cases hne : ks.length = ks'.length
  case neg =>
    have : ((ks.length : Int) != ks'.length) = true := by simp; omega
    simp [hal, this, eqL_len _ _ hne, -alen]
  have hb : ((ks.length : Int) != ks'.length) = false := by simp; omega
  simp [hal, hb, -alen]
  refine aws_loopw (fun k T' H' => ∃ i : Nat, i + k = ks.length ∧ T' 15 = eqsV ks ∧ T' 16 = .int .i64 ks.length ∧ T' 17 = .int .i64 i ∧ T' 1 = eqsV ks' ∧ T' 2 = .func (.func 33) [] [] ∧ eqL sameQ ks ks' = eqL sameQ (ks.drop i) (ks'.drop i) ∧ ∀ j x, H.get j = some x → H'.get j = some x) ks.length ?_ ?_
  · exact ⟨0, by simp, by simp, by simp, by simp, by simp, by simp, by simp, fun j x hj => hj⟩
  rintro k T H1 ⟨i, hik, t15, t16, t17, t1, t2, hs, hk⟩ hw1 _
  by_cases hi : i < ks.length
  · have hii : (i : Int) < ks.length := by omega
    have hi' : i < ks'.length := by omega
    have he : ks[i]? = some ks[i] := List.getElem?_eq_getElem hi
    have he' : ks'[i]? = some (ks'[i]'(by omega)) := List.getElem?_eq_getElem (by omega)
    have hd := hK ks[i] (List.getElem_mem hi)
    generalize ks[i] = e at *
    generalize ks'[i]'(by omega) = e' at *
    have hat := eq_take he
    have hat' := eq_take he'
    have hlen := eqsCells_len ks
    have hlen' := eqsCells_len ks'
    have h5 : 7 ≤ (eqsCells ks).length - i * 7 := by omega
    have h5' : 7 ≤ (eqsCells ks').length - i * 7 := by omega
    have hkv : eqsV ks = .vsl (eqsCells ks) ks.length := by unfold eqsV; rw [if_neg (by intro e0; rw [List.isEmpty_iff] at e0; rw [e0] at hi; simp at hi)]
    have hkv' : eqsV ks' = .vsl (eqsCells ks') ks'.length := by unfold eqsV; rw [if_neg (by intro e0; rw [List.isEmpty_iff] at e0; rw [e0] at hi'; simp at hi')]
    rw [hkv] at t15
    rw [hkv'] at t1
    have wr : IntKind.i64.wrap ((i : Int) + 1) = ((i + 1 : Nat) : Int) := by rw [IntWalk.i64_in _ (by omega)]; omega
    rw [eqL_drop he he'] at hs
    generalize hc : sameQ e e' = c at *
    have hd' := hd e'
    obtain ⟨nm, ⟨op, nm2, n, p, k2⟩, pos⟩ := e
    obtain ⟨nm', ⟨op', nm2', n', p', k2'⟩, pos'⟩ := e'
    simp only [hc, eqCells, exCells_mk, List.cons_append, List.nil_append] at hd' hat hat'
    simp [t15, t16, t17, t1, t2, hi, hi', hii, h5, h5', hat, hat', hsc, -alen]
    refine does_use (hd' _ (hup _ _ hok fun j x hj => ?_)) ?_
    · have := next_lt hw1 (hk j x hj)
      have e1 : j ≠ H1.next := by omega
      have e2 : j ≠ H1.next + 1 := by omega
      simp [e1, e2, hk j x hj]
    rintro r h ⟨rfl, rfl⟩
    cases c with
    | false =>
      rw [Bool.false_and] at hs
      simp [t15, t16, t17, t1, t2, hsc, -alen]
      refine ⟨hs, fun j x hj => ?_⟩
      have := next_lt hw1 (hk j x hj)
      have e1 : j ≠ H1.next := by omega
      have e2 : j ≠ H1.next + 1 := by omega
      simp [e1, e2, hk j x hj]
    | true =>
      rw [Bool.true_and] at hs
      simp [t15, t16, t17, t1, t2, hsc, -alen]
      refine ⟨k - 1, by omega, i + 1, by omega, hkv.symm, wr, hkv'.symm, hs, fun j x hj => ?_⟩
      have := next_lt hw1 (hk j x hj)
      have e1 : j ≠ H1.next := by omega
      have e2 : j ≠ H1.next + 1 := by omega
      simp [e1, e2, hk j x hj]
  · obtain rfl : i = ks.length := by omega
    simp [t15, t16, t17, -alen]
    refine ⟨?_, hk⟩
    rw [hs, List.drop_length, hne, List.drop_length]
    rfl
theorem nd_take : ∀ {l : List Nd} {i : Nat} {v : Nd}, l[i]? = some v → ((ndsCells l).drop (i * 6)).take 6 = ndCells v
  | [], i, v, h => by simp at h
  | a :: l, 0, v, h => by
    simp only [List.getElem?_cons_zero, Option.some.injEq] at h
    subst h
    have hl : (ndCells a).length = 6 := rfl
    simp only [Nat.zero_mul, List.drop_zero, ndsCells]
    rw [List.take_append_of_le_length (by omega), List.take_of_length_le (by omega)]
  | a :: l, i + 1, v, h => by
    have hl : (ndCells a).length = 6 := rfl
    have := nd_take (l := l) (i := i) (v := v) (by simpa using h)
    rw [ndsCells, show (i + 1) * 6 = (ndCells a).length + i * 6 by omega, ← List.drop_drop, List.drop_left]
    exact this
set_option maxHeartbeats 8000000 in
set_option maxRecDepth 100000 in
theorem eqf_nd {ks : List Nd} {c1 c2 : Nat} (Hok : AHeap → Prop) (hup : ∀ H H', Hok H → (∀ j x, H.get j = some x → H'.get j = some x) → Hok H')
    (hK : ∀ x ∈ ks, ∀ y H, Hok H → Does Tryz.prog G 36 (.agg (ndCells x) :: .agg (ndCells y) :: [.ptr c1 0, .ptr c2 0]) H fun r h => r = .bool (sameN x y) ∧ h = H)
    (h1 : ks.length ≤ 1000000000) (ks' : List Nd) (H : AHeap) (hok : Hok H) :
    Does Tryz.prog G 35 [ndsV ks, ndsV ks', .func (.func 36) [] [.ptr c1 0, .ptr c2 0]] H fun r h => r = .bool (eqL sameN ks ks') ∧ h = H := by
  refine bool_of ?_
  refine Does.wf Tryz.call35 fun hw _ => ?_
  have old : ∀ j x, H.get j = some x → j < H.next := fun j x hj => next_lt hw hj
  refine does_f Tryz.call35 Tryz.func35 rfl (by simp [Tryz.f35]) ?_
  have hal : ∀ l : List Nd, alen Tryz.prog 23 (ndsV l) = some (.int .i64 l.length) := by
    intro l
    unfold ndsV
    cases l with
    | nil => rfl
    | cons e l => rfl
  have hsc : ∀ l : List Nd, (ndsV l).scalar = true := by
    intro l; unfold ndsV; split <;> rfl
  simp [hal, hsc, -alen]
  by_cases hne : ks.length = ks'.length
  case neg =>
    have : ((ks.length : Int) != ks'.length) = true := by simp; omega
    simp [hal, this, eqL_len _ _ hne, -alen]
  have hb : ((ks.length : Int) != ks'.length) = false := by simp; omega
  simp [hal, hb, -alen]
  refine aws_loopw (fun k T' H' => ∃ i : Nat, i + k = ks.length ∧ T' 15 = ndsV ks ∧ T' 16 = .int .i64 ks.length ∧ T' 17 = .int .i64 i ∧ T' 1 = ndsV ks' ∧ T' 2 = .func (.func 36) [] [.ptr c1 0, .ptr c2 0] ∧ eqL sameN ks ks' = eqL sameN (ks.drop i) (ks'.drop i) ∧ ∀ j x, H.get j = some x → H'.get j = some x) ks.length ?_ ?_
  · exact ⟨0, by simp, by simp, by simp, by simp, by simp, by simp, by simp, fun j x hj => hj⟩
  rintro k T H1 ⟨i, hik, t15, t16, t17, t1, t2, hs, hk⟩ hw1 _
  by_cases hi : i < ks.length
  · have hii : (i : Int) < ks.length := by omega
    have hi' : i < ks'.length := by omega
    have he : ks[i]? = some ks[i] := List.getElem?_eq_getElem hi
    have he' : ks'[i]? = some (ks'[i]'(by omega)) := List.getElem?_eq_getElem (by omega)
    have hd := hK ks[i] (List.getElem_mem hi)
    generalize ks[i] = e at *
    generalize ks'[i]'(by omega) = e' at *
    have hat := nd_take he
    have hat' := nd_take he'
    have hlen := ndsCells_len ks
    have hlen' := ndsCells_len ks'
    have h5 : 6 ≤ (ndsCells ks).length - i * 6 := by omega
    have h5' : 6 ≤ (ndsCells ks').length - i * 6 := by omega
    have hkv : ndsV ks = .vsl (ndsCells ks) ks.length := by unfold ndsV; rw [if_neg (by intro e0; rw [List.isEmpty_iff] at e0; rw [e0] at hi; simp at hi)]
    have hkv' : ndsV ks' = .vsl (ndsCells ks') ks'.length := by unfold ndsV; rw [if_neg (by intro e0; rw [List.isEmpty_iff] at e0; rw [e0] at hi'; simp at hi')]
    rw [hkv] at t15
    rw [hkv'] at t1
    have wr : IntKind.i64.wrap ((i : Int) + 1) = ((i + 1 : Nat) : Int) := by rw [IntWalk.i64_in _ (by omega)]; omega
    rw [eqL_drop he he'] at hs
    generalize hc : sameN e e' = c at *
    have hd' := hd e'
    obtain ⟨nm, vi, vo, vl, vq, pos⟩ := e
    obtain ⟨nm', vi', vo', vl', vq', pos'⟩ := e'
    have hq : ∀ l : List Eqn, (eqsV l).scalar = true := by
      intro l; unfold eqsV; split <;> rfl
    simp only [hc, ndCells] at hd' hat hat'
    simp [t15, t16, t17, t1, t2, hi, hi', hii, h5, h5', hat, hat', hsc, hq, -alen]
    refine does_use (hd' _ (hup _ _ hok fun j x hj => ?_)) ?_
    · have := next_lt hw1 (hk j x hj)
      have e1 : j ≠ H1.next := by omega
      have e2 : j ≠ H1.next + 1 := by omega
      simp [e1, e2, hk j x hj]
    rintro r h ⟨rfl, rfl⟩
    cases c with
    | false =>
      rw [Bool.false_and] at hs
      simp [t15, t16, t17, t1, t2, hsc, hq, -alen]
      refine ⟨hs, fun j x hj => ?_⟩
      have := next_lt hw1 (hk j x hj)
      have e1 : j ≠ H1.next := by omega
      have e2 : j ≠ H1.next + 1 := by omega
      simp [e1, e2, hk j x hj]
    | true =>
      rw [Bool.true_and] at hs
      simp [t15, t16, t17, t1, t2, hsc, hq, -alen]
      refine ⟨k - 1, by omega, i + 1, by omega, hkv.symm, wr, hkv'.symm, hs, fun j x hj => ?_⟩
      have := next_lt hw1 (hk j x hj)
      have e1 : j ≠ H1.next := by omega
      have e2 : j ≠ H1.next + 1 := by omega
      simp [e1, e2, hk j x hj]
  · obtain rfl : i = ks.length := by omega
    simp [t15, t16, t17, -alen]
    refine ⟨?_, hk⟩
    rw [hs, List.drop_length, hne, List.drop_length]
    rfl
end Go.Proofs.YtpnjkagghmoamaaGreatDoor

namespace Go.Proofs.YtpnjkagghmoamaaGreatDoor
open Go Go.Abs Go.Lex
open Go.Syn (Ex Nd Eqn Va)
set_option linter.unusedSimpArgs false
set_option linter.unusedVariables false
variable {G : Nat → Option AV}
set_option maxHeartbeats 8000000 in
set_option maxRecDepth 100000 in
theorem same1 (x y : Va) (H : AHeap) : Does Tryz.prog G 32 [.agg (vaCells x), .agg (vaCells y)] H fun r h => r = .bool (sameV x y) ∧ h = H := by
  refine bool_of ?_
  refine Does.wf Tryz.call32 fun hw _ => ?_
  have old : ∀ j x, H.get j = some x → j < H.next := fun j x hj => next_lt hw hj
  obtain ⟨nm, kd, on, ng, pos⟩ := x
  obtain ⟨nm', kd', on', ng', pos'⟩ := y
  simp only [vaCells]
  refine does_f Tryz.call32 Tryz.func32 rfl (by simp [Tryz.f32]) ?_
  simp [-alen]
  cases h1 : nm == nm' with
  | false =>
    simp [h1, sameV, -alen]
    intro j x hj
    have := old j x hj
    have e1 : j ≠ H.next := by omega
    have e2 : j ≠ H.next + 1 := by omega
    simp [e1, e2, hj]
  | true =>
    simp [h1, -alen]
    by_cases h2 : (kd : Int) = kd'
    case neg =>
      have h2' : (kd == kd') = false := by simp; omega
      simp [h1, h2, h2', sameV, -alen]
      intro j x hj
      have := old j x hj
      have e1 : j ≠ H.next := by omega
      have e2 : j ≠ H.next + 1 := by omega
      simp [e1, e2, hj]
    case pos =>
      obtain rfl : kd = kd' := by omega
      simp [h1, -alen]
      cases h3 : on == on' with
      | false =>
        simp [h1, h3, sameV, -alen]
        intro j x hj
        have := old j x hj
        have e1 : j ≠ H.next := by omega
        have e2 : j ≠ H.next + 1 := by omega
        simp [e1, e2, hj]
      | true =>
        simp [h1, h3, sameV, -alen]
        intro j x hj
        have := old j x hj
        have e1 : j ≠ H.next := by omega
        have e2 : j ≠ H.next + 1 := by omega
        simp [e1, e2, hj]
set_option maxHeartbeats 8000000 in
set_option maxRecDepth 100000 in
theorem same2 (x y : Eqn) (hx : x.e.wt ≤ 1000000000) (H : AHeap) : Does Tryz.prog G 33 [.agg (eqCells x), .agg (eqCells y)] H fun r h => r = .bool (sameQ x y) ∧ h = H := by
  refine bool_of ?_
  refine Does.wf Tryz.call33 fun hw _ => ?_
  have old : ∀ j x, H.get j = some x → j < H.next := fun j x hj => next_lt hw hj
  obtain ⟨nm, e, pos⟩ := x
  obtain ⟨nm', e', pos'⟩ := y
  have hs := same_ex (G := G) e hx e'
  simp only [sameQ]
  generalize sameE e e' = c at *
  obtain ⟨op, nm2, n, p, k2⟩ := e
  obtain ⟨op', nm2', n', p', k2'⟩ := e'
  simp only [eqCells, exCells_mk, List.cons_append, List.nil_append] at hs ⊢
  refine does_f Tryz.call33 Tryz.func33 rfl (by simp [Tryz.f33]) ?_
  simp [-alen]
  cases h1 : nm == nm' with
  | false =>
    simp [h1, -alen]
    intro j x hj
    have := old j x hj
    have e1 : j ≠ H.next := by omega
    have e2 : j ≠ H.next + 1 := by omega
    simp [e1, e2, hj]
  | true =>
    simp [h1, -alen]
    refine does_use (hs _) ?_
    rintro r h ⟨rfl, rfl⟩
    simp [h1, -alen]
    intro j x hj
    have := old j x hj
    have e1 : j ≠ H.next := by omega
    have e2 : j ≠ H.next + 1 := by omega
    simp [e1, e2, hj]
set_option maxHeartbeats 8000000 in
set_option maxRecDepth 100000 in
theorem same3 (x y : Nd) {c1 c2 : Nat} (hx : ∀ q ∈ x.eqs, q.e.wt ≤ 1000000000) (l1 : x.ins.length ≤ 1000000000) (l2 : x.outs.length ≤ 1000000000) (l3 : x.locals.length ≤ 1000000000) (l4 : x.eqs.length ≤ 1000000000)
    (H : AHeap) (g1 : H.get c1 = some (.cells [.func (.func 32) [] []])) (g2 : H.get c2 = some (.cells [.func (.func 33) [] []])) :
    Does Tryz.prog G 36 [.agg (ndCells x), .agg (ndCells y), .ptr c1 0, .ptr c2 0] H fun r h => r = .bool (sameN x y) ∧ h = H := by
  refine bool_of ?_
  refine Does.wf Tryz.call36 fun hw _ => ?_
  have old : ∀ j x, H.get j = some x → j < H.next := fun j x hj => next_lt hw hj
  obtain ⟨nm, vi, vo, vl, vq, pos⟩ := x
  obtain ⟨nm', vi', vo', vl', vq', pos'⟩ := y
  simp only at hx l1 l2 l3 l4
  have b1 := old _ _ g1
  have b2 := old _ _ g2
  have m1 : c1 ≠ H.next := by omega
  have m2 : c1 ≠ H.next + 1 := by omega
  have m3 : c2 ≠ H.next := by omega
  have m4 : c2 ≠ H.next + 1 := by omega
  have hq : ∀ l : List Eqn, (eqsV l).scalar = true := by
    intro l; unfold eqsV; split <;> rfl
  have ha := fun H' => eqf_va (G := G) (fun _ => True) (fun _ _ _ _ => trivial) (fun x _ y H _ => same1 x y H) l1 vi' H' trivial
  have hb := fun H' => eqf_va (G := G) (fun _ => True) (fun _ _ _ _ => trivial) (fun x _ y H _ => same1 x y H) l2 vo' H' trivial
  have hc := fun H' => eqf_va (G := G) (fun _ => True) (fun _ _ _ _ => trivial) (fun x _ y H _ => same1 x y H) l3 vl' H' trivial
  have hd := fun H' => eqf_eq (G := G) (fun _ => True) (fun _ _ _ _ => trivial) (fun x hm y H _ => same2 x y (hx x hm) H) l4 vq' H' trivial
  simp only [sameN]
  generalize eqL sameV vi vi' = r1 at *
  generalize eqL sameV vo vo' = r2 at *
  generalize eqL sameV vl vl' = r3 at *
  generalize eqL sameQ vq vq' = r4 at *
  simp only [ndCells]
  refine does_f Tryz.call36 Tryz.func36 rfl (by simp [Tryz.f36]) ?_
  simp [hq, -alen]
  cases h1 : nm == nm' with
  | false =>
    simp [h1, hq, -alen]
    intro j x hj
    have := old j x hj
    have e1 : j ≠ H.next := by omega
    have e2 : j ≠ H.next + 1 := by omega
    simp [e1, e2, hj]
  | true =>
    simp [h1, hq, g1, g2, m1, m2, m3, m4, -alen]
    refine does_use (ha _) ?_
    rintro r h ⟨rfl, rfl⟩
    cases r1 with
    | false =>
      simp [h1, hq, g1, g2, m1, m2, m3, m4, -alen]
      intro j x hj
      have := old j x hj
      have e1 : j ≠ H.next := by omega
      have e2 : j ≠ H.next + 1 := by omega
      simp [e1, e2, hj]
    | true =>
      simp [h1, hq, g1, g2, m1, m2, m3, m4, -alen]
      refine does_use (hb _) ?_
      rintro r h ⟨rfl, rfl⟩
      cases r2 with
      | false =>
        simp [h1, hq, g1, g2, m1, m2, m3, m4, -alen]
        intro j x hj
        have := old j x hj
        have e1 : j ≠ H.next := by omega
        have e2 : j ≠ H.next + 1 := by omega
        simp [e1, e2, hj]
      | true =>
        simp [h1, hq, g1, g2, m1, m2, m3, m4, -alen]
        refine does_use (hc _) ?_
        rintro r h ⟨rfl, rfl⟩
        cases r3 with
        | false =>
          simp [h1, hq, g1, g2, m1, m2, m3, m4, -alen]
          intro j x hj
          have := old j x hj
          have e1 : j ≠ H.next := by omega
          have e2 : j ≠ H.next + 1 := by omega
          simp [e1, e2, hj]
        | true =>
          simp [h1, hq, g1, g2, m1, m2, m3, m4, -alen]
          refine does_use (hd _) ?_
          rintro r h ⟨rfl, rfl⟩
          simp [h1, hq, g1, g2, m1, m2, m3, m4, -alen]
          intro j x hj
          have := old j x hj
          have e1 : j ≠ H.next := by omega
          have e2 : j ≠ H.next + 1 := by omega
          simp [e1, e2, hj]
set_option maxHeartbeats 8000000 in
set_option maxRecDepth 100000 in
theorem same_does {l m : List Nd} (hlen : l.length ≤ 1000000000) (hl : ∀ x ∈ l, (∀ q ∈ x.eqs, q.e.wt ≤ 1000000000) ∧ x.ins.length ≤ 1000000000 ∧ x.outs.length ≤ 1000000000 ∧ x.locals.length ≤ 1000000000 ∧ x.eqs.length ≤ 1000000000)
    (H : AHeap) : Does Tryz.prog G 11 [ndsV l, ndsV m] H fun r h => r = .bool (eqL sameN l m) ∧ h = H := by
  refine bool_of ?_
  refine Does.wf Tryz.call11 fun hw _ => ?_
  have old : ∀ j x, H.get j = some x → j < H.next := fun j x hj => next_lt hw hj
  have hsc : ∀ l : List Nd, (ndsV l).scalar = true := by
    intro l; unfold ndsV; split <;> rfl
  have hd := fun (H' : AHeap) (c1 c2 : Nat) hok => eqf_nd (G := G) (c1 := c1) (c2 := c2) (ks := l)
    (fun H => H.get c1 = some (.cells [.func (.func 32) [] []]) ∧ H.get c2 = some (.cells [.func (.func 33) [] []]))
    (fun H H' h k => ⟨k _ _ h.1, k _ _ h.2⟩) (fun x hm y H h => same3 x y (hl x hm).1 (hl x hm).2.1 (hl x hm).2.2.1 (hl x hm).2.2.2.1 (hl x hm).2.2.2.2 H h.1 h.2) hlen m H' hok
  generalize eqL sameN l m = c at *
  refine does_f Tryz.call11 Tryz.func11 rfl (by simp [Tryz.f11]) ?_
  simp [hsc, -alen]
  refine does_use (hd _ _ _ ⟨?_, ?_⟩) ?_
  · simp
  · simp
  rintro r h ⟨rfl, rfl⟩
  simp [hsc, -alen]
  intro j x hj
  have := old j x hj
  have e1 : j ≠ H.next := by omega
  have e2 : j ≠ H.next + 1 := by omega
  simp [e1, e2, hj]
end Go.Proofs.YtpnjkagghmoamaaGreatDoor

namespace Go.Proofs.YtpnjkagghmoamaaGreatDoor
open Go Go.Abs Go.Lex
def isErrCell : Option AV → Bool
  | some (.vptr [.iface _ _]) => true
  | _ => false
theorem errCell : isErrCell (Gof tab 3) = true := by kernel_rfl
theorem hasErr : HasErr (Gof tab) := by
  have h := errCell
  unfold isErrCell at h
  split at h
  · rename_i t v he; exact ⟨t, v, he⟩
  · simp at h
set_option maxRecDepth 100000 in
theorem shp_str' {n : Nat} {a : AV} (h : Shp Tryz.prog (n + 1) 9 [a]) : ∃ s, a = .str s ∧ s.length ≤ maxLen := by
  simp only [Shp, Tryz.underlying9] at h
  obtain ⟨s, h, hl⟩ := h
  simp only [List.cons.injEq, and_true] at h
  exact ⟨s, h, hl⟩
set_option maxRecDepth 100000 in
theorem shp_str {a : AV} (h : Shp Tryz.prog 8 9 [a]) : ∃ s, a = .str s ∧ s.length ≤ maxLen := shp_str' (n := 7) h
end Go.Proofs.YtpnjkagghmoamaaGreatDoor

namespace Go.Proofs.YtpnjkagghmoamaaGreatDoor
open Go Go.Abs Go.Lex
theorem flatW_cellsW (l : List (Nat × Wd)) : flatW l = cellsW l := by
  induction l with
  | nil => rfl
  | cons x l ih =>
    obtain ⟨i, w⟩ := x
    simp only [flatW, cellsW, ih, wdCells]
theorem cutAns_eq (t : Bs) : cutAns t = cutA t := by
  unfold cutAns cutA
  split
  · rfl
  · cases cutS t.length t with
    | ok l => simp only [flatW_cellsW]
    | error e => rfl
theorem cutOv_good (args : List AV) (H : FH) (k : AV → FH → Bool) (h : cutOv args H k = true) :
    ∃ v H', Does Tryz.prog (Gof tab) 23 args H.abs (fun r h => r = v ∧ h = FH.abs H') ∧ H.next ≤ H'.next ∧ k v H' = true := by
  obtain ⟨s, rfl, hl, hk⟩ := cutOv_inv h
  exact ⟨_, H, (cut_does s hasErr H.abs (by omega)).mono fun r h hr => ⟨hr.1.trans (cutAns_eq s), hr.2⟩, Nat.le_refl _, hk⟩
noncomputable def knownC : Ov := ovAdd 23 cutOv known
theorem knownC_good : OvGoodK Tryz.prog (Gof tab) knownC := ovAdd_good cutOv_good (known_good _)
end Go.Proofs.YtpnjkagghmoamaaGreatDoor

namespace Go.Proofs.YtpnjkagghmoamaaGreatDoor
open Go Go.Abs Go.RowKit
noncomputable def selOv (T : TypeId) (a b : List AV → FH → (AV → FH → Bool) → Bool) (args : List AV) (H : FH) (k : AV → FH → Bool) : Bool :=
  twoK args (fun x _ => x.onPtr false (fun i _ => H.rowK i (fun t _ => ifK (Nat.beq t T) (a args H k) (b args H k)) false) (fun _ => false)) false
theorem selOv_good {T : TypeId} {P : Program} {G : Nat → Option AV} {f : FuncId} {a b : List AV → FH → (AV → FH → Bool) → Bool}
    (ha : ∀ args H k, a args H k = true → ∃ v H', Does P G f args H.abs (fun r h => r = v ∧ h = FH.abs H') ∧ H.next ≤ H'.next ∧ k v H' = true)
    (hb : ∀ args H k, b args H k = true → ∃ v H', Does P G f args H.abs (fun r h => r = v ∧ h = FH.abs H') ∧ H.next ≤ H'.next ∧ k v H' = true)
    (args : List AV) (H : FH) (k : AV → FH → Bool) (h : selOv T a b args H k = true) : ∃ v H', Does P G f args H.abs (fun r h => r = v ∧ h = FH.abs H') ∧ H.next ≤ H'.next ∧ k v H' = true := by
  unfold selOv at h
  obtain ⟨x, y, hxy, h1⟩ := twoK_inv h
  rcases AV.onPtr_inv h1 with ⟨i, o, _, q⟩ | ⟨cs, _, q⟩
  case inr => simp at q
  obtain ⟨t, cs, _, q1, _⟩ := FH.rowK_inv q
  cases hb' : Nat.beq t T with
  | true => rw [hb'] at q1; exact ha args H k q1
  | false => rw [hb'] at q1; exact hb args H k q1
theorem isCheckW : IsCheck Tryz.prog 60 85 83 := ⟨Tryz.call60, by kernel_rfl, by kernel_rfl, fun b n w h0 hsh hn hl hfz => copyCheck_fresh b n w h0 85 hsh hn hl hfz, copyCheck_used⟩
theorem isWriteW : IsWrite Tryz.prog 28 60 85 5 50 9 := ⟨Tryz.call28, Tryz.underlying50, Tryz.underlying9, ⟨Tryz.t5, .int .u8 0, by kernel_rfl, by kernel_rfl, rfl, by kernel_rfl, by kernel_rfl⟩, writeString_runs⟩
noncomputable def knownW : Ov := ovAdd 28 (selOv 85 (wsOv 85 5) (wsOv 83 5)) knownC
theorem knownW_good : OvGoodK Tryz.prog (Gof tab) knownW := ovAdd_good (selOv_good (wsOv_good isCheckW isWriteW) (wsOv_good isCheck isWrite)) knownC_good
end Go.Proofs.YtpnjkagghmoamaaGreatDoor

namespace Go.Proofs.YtpnjkagghmoamaaGreatDoor
open Go Go.Abs Go.Lex
set_option linter.unusedSimpArgs false
def wsOf : List AV → Syn.Ws
  | .int _ a :: .str s :: .int _ b :: .int _ c :: r => (c.toNat, ⟨a.toNat, s, b.toNat⟩) :: wsOf r
  | _ => []
theorem wsOf_flatW : ∀ W : Syn.Ws, wsOf (flatW W) = W
  | [] => rfl
  | (i, w) :: W => by
    have ih := wsOf_flatW W
    show wsOf (.int .i64 w.kind :: .str w.text :: .int .i64 w.n :: .int .i64 i :: flatW W) = _
    simp only [wsOf, ih, Int.toNat_natCast]
noncomputable def parseW (W : Syn.Ws) (k : AV → Bool) : Bool :=
  (fun x : List Syn.Nd × Syn.St => ifK (Nat.beq x.2.err 0) (k (.tuple [ndsV x.1, .agg [.int .i64 0, .int .i64 0]])) (k (.tuple [.nilsl, .agg [.int .i64 x.2.err, .int .i64 x.2.pos]]))) (Syn.nodesL W 33 [] ⟨0, 0, 0, 0, 0⟩)
noncomputable def parseV (g : List AV → (AV → Bool) → Bool) (v : AV) (H : FH) (k : AV → FH → Bool) : Bool :=
  v.onTuple false fun l => twoK l (fun c f => c.onSl false (k (.tuple [.nilsl, f]) H) (fun _ _ _ _ _ _ => false) fun cs _ => g cs fun r => k r H) false
theorem parseV_ok (g : List AV → (AV → Bool) → Bool) (cs : List AV) (n : Nat) (f : AV) (H : FH) (k : AV → FH → Bool) : parseV g (.tuple [.vsl cs n, f]) H k = g cs fun r => k r H := rfl
theorem parseV_bad (g : List AV → (AV → Bool) → Bool) (f : AV) (H : FH) (k : AV → FH → Bool) : parseV g (.tuple [.nilsl, f]) H k = k (.tuple [.nilsl, f]) H := rfl
noncomputable def parseOv (args : List AV) (H : FH) (k : AV → FH → Bool) : Bool := cutOv args H fun v _ => parseV (fun cs => parseW (wsOf cs)) v H k
theorem parseOv_inv {args : List AV} {H : FH} {k : AV → FH → Bool} (h : parseOv args H k = true) : ∃ s : Bs, args = [.str s] ∧ s.length ≤ 140737488355328 ∧ k (parseAns s) H = true := by
  obtain ⟨s, rfl, hl, h⟩ := cutOv_inv h
  refine ⟨s, rfl, hl, ?_⟩
  rw [← cutAns_eq] at h
  by_cases hL : 16384 < s.length
  · have hans : cutAns s = .tuple [.nilsl, .agg [.int .i64 2, .int .i64 s.length]] := by unfold cutAns; rw [if_pos hL]
    have hpar : Syn.parse s = .error (2, s.length) := by unfold Syn.parse; rw [if_pos hL]
    rw [hans, parseV_bad] at h
    unfold parseAns
    rw [hpar]
    exact h
  · cases hc : cutS s.length s with
    | error e =>
      have hans : cutAns s = .tuple [.nilsl, .agg [.int .i64 7, .int .i64 e]] := by unfold cutAns; rw [if_neg hL, hc]
      have hpar : Syn.parse s = .error (7, e) := by unfold Syn.parse; rw [if_neg hL, hc]
      rw [hans, parseV_bad] at h
      unfold parseAns
      rw [hpar]
      exact h
    | ok L =>
      obtain ⟨W, hWd⟩ : ∃ W, W = L ++ [(s.length, ⟨0, [], 0⟩)] := ⟨_, rfl⟩
      have hans : cutAns s = .tuple [.vsl (flatW W) W.length, .agg [.int .i64 0, .int .i64 0]] := by
        unfold cutAns; rw [if_neg hL, hc, hWd]
        simp [flatW_snoc]
      have hpar : Syn.parse s = (if (Syn.nodesL W 33 [] ⟨0, 0, 0, 0, 0⟩).2.err = 0 then .ok (Syn.nodesL W 33 [] ⟨0, 0, 0, 0, 0⟩).1 else .error ((Syn.nodesL W 33 [] ⟨0, 0, 0, 0, 0⟩).2.err, (Syn.nodesL W 33 [] ⟨0, 0, 0, 0, 0⟩).2.pos)) := by
        unfold Syn.parse
        rw [if_neg hL, hc]
        simp only
        rw [← hWd]
      rw [hans, parseV_ok] at h
      simp only [wsOf_flatW] at h
      unfold parseW at h
      unfold parseAns
      rw [hpar]
      generalize Syn.nodesL W 33 [] ⟨0, 0, 0, 0, 0⟩ = x at h ⊢
      obtain ⟨ns, st⟩ := x
      simp only at h ⊢
      by_cases he : st.err = 0
      · rw [if_pos he]
        rw [he] at h
        exact h
      · rw [if_neg he]
        have : Nat.beq st.err 0 = false := by
          cases hb : Nat.beq st.err 0 with
          | false => rfl
          | true => exact absurd (Nat.eq_of_beq_eq_true hb) he
        rw [this] at h
        exact h
theorem parseOv_good (args : List AV) (H : FH) (k : AV → FH → Bool) (h : parseOv args H k = true) :
    ∃ v H', Does Tryz.prog (Gof tab) 9 args H.abs (fun r h => r = v ∧ h = FH.abs H') ∧ H.next ≤ H'.next ∧ k v H' = true := by
  obtain ⟨s, rfl, hl, hk⟩ := parseOv_inv h
  exact ⟨_, H, (p_parse s hasErr H.abs (by omega)).mono fun r h hr => ⟨hr.1, hr.2⟩, Nat.le_refl _, hk⟩
noncomputable def knownP : Ov := ovAdd 9 parseOv knownW
theorem knownP_good : OvGoodK Tryz.prog (Gof tab) knownP := ovAdd_good parseOv_good knownW_good
theorem awake_run : fcall knownP Tryz.prog (Gof tab) 100000 300 8 [] FH.empty (litK (.bool true)) = true := by kernel_rfl
end Go.Proofs.YtpnjkagghmoamaaGreatDoor

namespace Go.Proofs.YtpnjkagghmoamaaGreatDoor
open Go Go.Abs Go.Lex
set_option linter.unusedSimpArgs false
set_option maxRecDepth 100000
theorem gof_low5 : ∀ (T : List (Nat × List AV)), (T.all fun p => (AV.vptr p.2).idLt 0) = true → ∀ g a, Gof T g = some a → a.idLt 0 = true
  | [], _, g, a, ha => by simp [Gof] at ha
  | (h, l) :: r, hT, g, a, ha => by
    simp only [List.all_cons, Bool.and_eq_true] at hT
    simp only [Gof] at ha
    split at ha
    · cases ha; exact hT.1
    · exact gof_low5 r hT.2 g a ha
theorem mixed5 : Tryz.prog.follows .mixedOrders = true := by kernel_rfl
theorem plain5 : plainFn Tryz.prog = true := by kernel_rfl
theorem gof_tab5 : ∀ g a, Gof tab g = some a → a.idLt 0 = true := gof_low5 tab (by kernel_rfl)
theorem awake5 (H : AHeap) : Does Tryz.prog (Gof tab) 8 [] H fun r h => r = .bool true ∧ h = H :=
  lit_does mixed5 plain5 knownP_good gof_tab5 rfl rfl awake_run H
end Go.Proofs.YtpnjkagghmoamaaGreatDoor

namespace Go.Proofs.YtpnjkagghmoamaaGreatDoor
open Go Go.Abs Go.Lex
open Go.Syn (Ex Nd Eqn Va)
variable {G : Nat → Option AV}
set_option linter.unusedSimpArgs false
set_option linter.unusedVariables false
theorem parse_nz {t : Bs} {e p : Nat} (h : Syn.parse t = .error (e, p)) : e ≠ 0 := by
  unfold Syn.parse at h
  by_cases hb : 16384 < t.length
  · rw [if_pos hb] at h
    simp only [Except.error.injEq, Prod.mk.injEq] at h
    omega
  rw [if_neg hb] at h
  cases hc : cutS t.length t with
  | error x =>
    rw [hc] at h
    simp only [Except.error.injEq, Prod.mk.injEq] at h
    omega
  | ok ls =>
    rw [hc] at h
    simp only at h
    generalize Syn.nodesL (ls ++ [(t.length, ⟨0, [], 0⟩)]) 33 [] ⟨0, 0, 0, 0, 0⟩ = r at *
    by_cases he : r.2.err = 0
    · rw [if_pos he] at h; simp at h
    · rw [if_neg he] at h
      simp only [Except.error.injEq, Prod.mk.injEq] at h
      omega
theorem nds_wt_mem : ∀ {l : List Nd} {n : Nd}, n ∈ l → n.wt ≤ Syn.ndsWt l
  | [], n, h => by simp at h
  | a :: l, n, h => by
    rcases List.mem_cons.1 h with rfl | h
    · simp only [Syn.ndsWt]; omega
    · have := nds_wt_mem h
      simp only [Syn.ndsWt]; omega
theorem eqs_wt_mem : ∀ {l : List Eqn} {n : Eqn}, n ∈ l → n.e.wt ≤ Syn.eqsWt l
  | [], n, h => by simp at h
  | a :: l, n, h => by
    rcases List.mem_cons.1 h with rfl | h
    · simp only [Syn.eqsWt]; omega
    · have := eqs_wt_mem h
      simp only [Syn.eqsWt]; omega
theorem eqs_wt_len : ∀ l : List Eqn, l.length ≤ Syn.eqsWt l
  | [] => Nat.le_refl _
  | a :: l => by
    have := eqs_wt_len l
    have h3 : 1 ≤ a.e.wt := by cases a.e; simp [Syn.Ex.wt]
    simp only [Syn.eqsWt, List.length_cons]; omega
theorem nds_wt_len : ∀ l : List Nd, l.length ≤ Syn.ndsWt l
  | [] => Nat.le_refl _
  | a :: l => by
    have := nds_wt_len l
    have h3 : 1 ≤ a.wt := by simp [Syn.Nd.wt]
    simp only [Syn.ndsWt, List.length_cons]; omega
theorem optAll_id {f : AV → Option AV} : ∀ cs : List AV, (∀ v ∈ cs, f v = some v) → optAll (cs.map f) = some cs
  | [], _ => rfl
  | v :: cs, h => by
    have h1 := h v (by simp)
    have h2 := optAll_id (f := f) cs fun x hx => h x (by simp [hx])
    simp only [List.map_cons, optAll, h1, h2]
    rfl
theorem vas_scal : ∀ (l : List Va) (v : AV), v ∈ vasCells l → (∃ s, v = .str s) ∨ (∃ k n, v = .int k n) ∨ ∃ b, v = .bool b
  | [], v, h => by simp [vasCells] at h
  | a :: l, v, h => by
    rw [vasCells, List.mem_append] at h
    rcases h with h | h
    · simp only [vaCells, List.mem_cons, List.not_mem_nil, or_false] at h
      rcases h with rfl | rfl | rfl | rfl | rfl
      · exact .inl ⟨_, rfl⟩
      · exact .inr (.inl ⟨_, _, rfl⟩)
      · exact .inl ⟨_, rfl⟩
      · exact .inr (.inr ⟨_, rfl⟩)
      · exact .inr (.inl ⟨_, _, rfl⟩)
    · exact vas_scal l v h
theorem vsV_rs (get : Nat → Option AObj) (n : Nat) (l : List Va) : AV.res get (n + 2) (vsV l) = some (vsV l) := by
  unfold vsV
  split
  · rfl
  · rw [AV.res]
    rw [optAll_id]
    · rfl
    · intro v hv
      rcases vas_scal l v hv with ⟨s, rfl⟩ | ⟨k, m, rfl⟩ | ⟨b, rfl⟩ <;> rfl
theorem show_live {n : Nd} {tx : Bs} (k : Nat) (H : AHeap) (hk : H.get k = some (.cells [.str n.name, vsV n.ins, vsV n.outs, vsV n.locals, .nilsl, .int .i64 n.pos]))
    (h : ∀ H, Does Tryz.prog G 13 [.vsl [.str n.name, vsV n.ins, vsV n.outs, vsV n.locals, .nilsl, .int .i64 n.pos] 1] H fun r H' => r = .str tx ∧ H' = H) :
    Does Tryz.prog G 13 [.sl k 0 6 1 1 false] H fun r h => r = .str tx ∧ h = H.kill k := by
  refine Does.asFrozen (H2 := H.kill k) (n := 4) (fun i x hi => ?_) rfl ?_ (h (H.kill k))
  · have hi : (if i = k then none else H.get i) = some x := hi
    split at hi
    · simp at hi
    · exact hi
  · have e : offGet H.get (H.kill k).get k = some (.cells [.str n.name, vsV n.ins, vsV n.outs, vsV n.locals, .nilsl, .int .i64 n.pos]) := by
      have e1 : (H.kill k).get k = none := if_pos rfl
      unfold offGet
      rw [e1]
      exact hk
    have e2 : AV.res (offGet H.get (H.kill k).get) 4 (.sl k 0 6 1 1 false) = some (.vsl [.str n.name, vsV n.ins, vsV n.outs, vsV n.locals, .nilsl, .int .i64 n.pos] 1) := by
      rw [AV.res]
      simp only [e, List.drop_zero, Nat.one_mul, List.take_succ_cons, List.take_zero, List.map_cons, List.map_nil, vsV_rs _ 1]
      rfl
    simp only [List.map_cons, List.map_nil, e2]
    rfl
set_option maxHeartbeats 8000000 in
set_option maxRecDepth 100000 in
theorem brackets_run (H : AHeap) (t : Bs) (ht : t.length < 9223372036854775808) : Does Tryz.prog (Gof tab) 5 [.str t] H fun r _ => r = .bool true := by
  refine does_f Tryz.call5 Tryz.func5 rfl (by simp [Tryz.f5]) ?_
  simp
  refine does_use (awake5 _) ?_
  rintro _ H0 ⟨rfl, rfl⟩
  by_cases big : 1200 < t.length
  · have : (1200 : Int) < t.length := by omega
    simp [this]
  have big' : ¬ (1200 : Int) < t.length := by omega
  simp [big']
  refine does_use (p_parse t hasErr _ ht) ?_
  rintro _ H2 ⟨rfl, hH⟩
  cases hH
  have hsc : ∀ l : List Nd, (ndsV l).scalar = true := by
    intro l; unfold ndsV; split <;> rfl
  have hal : ∀ l : List Nd, alen Tryz.prog 23 (ndsV l) = some (.int .i64 l.length) := by
    intro l
    unfold ndsV
    cases l with
    | nil => rfl
    | cons e l => rfl
  cases hp : Syn.parse t with
  | error x =>
    obtain ⟨e, p⟩ := x
    have e1 : parseAns t = .tuple [.nilsl, .agg [.int .i64 e, .int .i64 p]] := by unfold parseAns; rw [hp]
    have e2 := parse_nz hp
    rw [e1]
    have e3 : ((e : Int) != 0) = true := by simp [e2]
    simp [e3]
  | ok l =>
    have e1 : parseAns t = .tuple [ndsV l, .agg [.int .i64 0, .int .i64 0]] := by unfold parseAns; rw [hp]
    rw [e1]
    have hwt := Syn.parse_wt hp
    obtain ⟨hne, hwf⟩ := Syn.parse_wf hp
    have hback := Syn.brackets_back hp
    simp [hsc, hal, -alen]
    have hll := nds_wt_len l
    refine aws_loopw (fun m T' H' => ∃ i : Nat, i + m = l.length ∧ T' 3 = ndsV l ∧ T' 5 = .str (Syn.ndsB (l.take i)) ∧ T' 6 = .int .i64 i) l.length ⟨0, by simp, by simp, by simp [Syn.ndsB], by simp⟩ ?_
    rintro m T H1 ⟨i, hi, t3, t5, t6⟩ hw1 _
    by_cases hlt : i < l.length
    · have hii : (i : Int) < l.length := by omega
      have hd : l[i]? = some l[i] := List.getElem?_eq_getElem hlt
      have hm : l[i] ∈ l := List.getElem_mem hlt
      have htk : Syn.ndsB (l.take (i + 1)) = Syn.ndsB (l.take i) ++ Syn.ndB l[i] := by
        rw [List.take_add_one, hd, Syn.ndsB_append]
        simp [Syn.ndsB]
      have hLL : (Syn.ndsB (l.take i)).length ≤ 16000000 := by
        have h1 := Syn.ndsB_len (l := l.take i) fun q hq => hwf q (List.mem_of_mem_take hq)
        have h2 : Syn.ndsWt (l.take i) ≤ Syn.ndsWt l := by
          have h3 := Syn.ndsWt_append (l.take i) (l.drop i)
          rw [List.take_append_drop] at h3
          omega
        omega
      generalize l[i] = d at *
      have hat := nd_take hd
      have hdw := hwf d hm
      have hdt := nds_wt_mem hm
      have hlen := ndsCells_len l
      have h6 : 6 ≤ (ndsCells l).length - i * 6 := by omega
      have hkv : ndsV l = .vsl (ndsCells l) l.length := by unfold ndsV; rw [if_neg (by intro e0; rw [List.isEmpty_iff] at e0; exact hne e0)]
      have t3' := t3
      rw [hkv] at t3
      have hal' := hal l
      rw [hkv] at hal'
      have wr : IntKind.i64.wrap ((i : Int) + 1) = ((i + 1 : Nat) : Int) := by rw [IntWalk.i64_in _ (by omega)]; omega
      have d1 : 1 + (d.ins.length + d.outs.length + d.locals.length + Syn.eqsWt d.eqs) ≤ 40000 := by
        have : d.wt = 1 + (d.ins.length + d.outs.length + d.locals.length + Syn.eqsWt d.eqs) := rfl
        omega
      have d2 := eqs_wt_len d.eqs
      have hcn := fun H => conv_node (G := Gof tab) (n := d) (by omega) (by omega) (by omega) (by omega) (fun q hq => conv_ex q.e (by have := eqs_wt_mem hq; omega)) H
      have hsh := fun H => show_head (G := Gof tab) (n := d) (Syn.nm_len hdw.name) (fun v hv => Syn.wfV_L (hdw.ins v hv)) (fun v hv => Syn.wfV_L (hdw.outs v hv)) hdw.locals (by omega) (by omega) (by omega) H
      have hht := Syn.head_tlen hdw
      have hnb : Syn.ndB d = Syn.headT d ++ (Syn.eqsB d.eqs ++ (Syn.sTel ++ [32])) := rfl
      have hqw := hdw.eqs
      generalize Syn.headT d = hd0 at *
      obtain ⟨nm, vi, vo, vl, vq, pos⟩ := d
      simp only [ndCells] at hat hcn hsh hqw hnb
      simp only at d1 d2 hht
      simp [t3, t5, t6, hii, hlt, hal', h6, hat, -alen]
      refine does_use (hcn _) ?_
      rintro _ H3 ⟨rfl, rfl⟩
      have hq : ∀ l : List Eqn, (eqsV l).scalar = true := by
        intro l; unfold eqsV; split <;> rfl
      simp [t3, t5, t6, hq, -alen]
      refine does_use (show_live (n := ⟨nm, vi, vo, vl, vq, pos⟩) (tx := hd0 ++ (Syn.sTel ++ [59, 10])) _ _ (by simp) hsh) ?_
      rintro r H4 ⟨rfl, hH4⟩
      clear hH4
      have hst : Syn.sTel = [116, 101, 108] := rfl
      have hsl : List.length (hd0 ++ (Syn.sTel ++ [59, 10])) = hd0.length + 5 := by simp [hst]
      have hs0 : ∀ s : Bs, alen Tryz.prog 9 (.str s) = some (.int .i64 s.length) := by
        intro s
        simp
      have wl : IntKind.i64.wrap (hd0.length : Int) = hd0.length := IntWalk.i64_in _ (by omega)
      have wl2 : (0 : Int) ≤ hd0.length ∧ (hd0.length : Int) ≤ hd0.length + 5 := by omega
      have htl : List.take hd0.length (hd0 ++ (Syn.sTel ++ [59, 10])) = hd0 := List.take_left
      have hlim : (Syn.ndsB (l.take i)).length + hd0.length ≤ 9223372036854775807 := by omega
      simp [t3, t5, t6, hq, hs0, hsl, wl, wl2, htl, hlim, -alen]
      have haq : alen Tryz.prog 34 (eqsV vq) = some (.int .i64 vq.length) := by
        unfold eqsV
        cases vq with
        | nil => rfl
        | cons e l => rfl
      have hEB : ∀ k, (Syn.eqsB (vq.take k)).length ≤ 5120000 := by
        intro k
        have h1 := Syn.eqsB_len (l := vq.take k) fun q hq => hqw q (List.mem_of_mem_take hq)
        have h2 : Syn.eqsWt (vq.take k) ≤ Syn.eqsWt vq := by
          have h3 := Syn.eqsWt_append (vq.take k) (vq.drop k)
          rw [List.take_append_drop] at h3
          omega
        omega
      have hPl : (Syn.ndsB (l.take i) ++ hd0).length ≤ 20000000 := by rw [List.length_append]; omega
      refine aws_loopw (fun m' T' H' => ∃ k : Nat, k + m' = vq.length ∧ T' 3 = .vsl (ndsCells l) l.length ∧ T' 6 = .int .i64 i ∧ T' 8 = eqsV vq ∧ T' 5 = .str ((Syn.ndsB (l.take i) ++ hd0) ++ Syn.eqsB (vq.take k)) ∧ T' 10 = .int .i64 k) vq.length ⟨0, by simp, by simp [t3], by simp [t6], by simp, by simp [Syn.eqsB], by simp⟩ ?_
      generalize hP : Syn.ndsB (l.take i) ++ hd0 = P at *
      rintro m2 T2 H5 ⟨k, hkm, u3, u6, u8, u5, u10⟩ hw5 _
      by_cases hk : k < vq.length
      · have hkk : (k : Int) < vq.length := by omega
        have he : vq[k]? = some vq[k] := List.getElem?_eq_getElem hk
        have hem : vq[k] ∈ vq := List.getElem_mem hk
        have hek : Syn.eqsB (vq.take (k + 1)) = Syn.eqsB (vq.take k) ++ Syn.eqB vq[k] := by
          rw [List.take_add_one, he, Syn.eqsB_append]
          simp [Syn.eqsB]
        have hEk := hEB k
        generalize vq[k] = q at *
        obtain ⟨a1, a2, a3, a4⟩ := eqs_at he
        have hq1 := hqw q hem
        have hqv : eqsV vq = .vsl (eqsCells vq) vq.length := by unfold eqsV; rw [if_neg (by intro e0; rw [List.isEmpty_iff] at e0; rw [e0] at hk; simp at hk)]
        obtain ⟨w, htr⟩ := Syn.txE_tr hq1.2
        have hqe := eqs_wt_mem hem
        have hl1 := Syn.tr_len htr
        have hl2 := Syn.nm_len hq1.1
        have htx := tr_text (G := Gof tab) htr (by omega)
        have u8' := u8
        rw [hqv] at u8
        rw [hqv] at haq
        have wr2 : IntKind.i64.wrap ((k : Int) + 1) = ((k + 1 : Nat) : Int) := by rw [IntWalk.i64_in _ (by omega)]; omega
        have h5q : 5 ≤ (eqsCells vq).length - (k * 7 + 1) := by omega
        have hqB : Syn.eqB q = q.name ++ (61 :: 40 :: (Syn.txE q.e ++ [41, 59])) := rfl
        generalize Syn.txE q.e = tx at *
        obtain ⟨qn, ⟨op, nm2, n, p, k2⟩, qp⟩ := q
        simp only [exCells_mk] at a1 a2 htx hl2 hqB
        simp [u3, u5, u6, u8, u10, haq, hk, hkk, -alen]
        refine aw_drawn [(5, 0), (5, 14), (12, 0)] mixedOrders (by kernel_rfl) ?_
        intro es hes
        simp [u3, u5, u6, u8, u10, haq, hk, hkk, a1, a2, -alen]
        rw [if_pos (by omega)]
        simp [u3, u5, u6, u8, u10, haq, hk, hkk, a1, a2, -alen]
        rw [if_pos (by omega)]
        simp [u3, u5, u6, u8, u10, haq, hk, hkk, a1, a2, a4, h5q, -alen]
        refine ⟨_, _, htx _, Nat.le_refl _, ?_⟩
        simp [rds, heapF, u3, u5, u6, u8, u10, haq, hk, hkk, a1, a2, h5q, -alen]
        rw [if_pos (by omega)]
        simp [rds, heapF, u3, u5, u6, u8, u10, haq, hk, hkk, a1, a2, h5q, -alen]
        rw [if_pos (by omega)]
        simp [rds, heapF, u3, u5, u6, u8, u10, haq, hk, hkk, a1, a2, h5q, -alen]
        subst hes
        exact ⟨⟨by kernel_rfl, by kernel_rfl⟩, m2 - 1, by omega, k + 1, by omega, hqv.symm, by rw [hek, hqB], wr2⟩
      · obtain rfl : k = vq.length := by omega
        have hEk := hEB vq.length
        rw [List.take_length] at u5 hEk
        simp [u3, u5, u6, u8, u10, haq, -alen]
        rw [if_pos (by omega)]
        simp [u3, u5, u6, u8, u10, haq, -alen]
        exact ⟨m - 1, by omega, i + 1, by omega, hkv.symm, by rw [← hP, htk, hnb]; simp [hst], wr⟩
    · obtain rfl : i = l.length := by omega
      rw [List.take_length] at t5
      have hLL := Syn.ndsB_len hwf
      simp [t3, t5, t6, hal, hsc, -alen]
      refine does_use (p_parse _ hasErr _ (by omega)) ?_
      rintro _ H2 ⟨rfl, hH⟩
      clear hH
      rcases hback with ⟨p, hb⟩ | ⟨l', hb, hbe⟩
      · have e1 : parseAns (Syn.ndsB l) = .tuple [.nilsl, .agg [.int .i64 2, .int .i64 p]] := by unfold parseAns; rw [hb]; rfl
        rw [e1]
        simp [t3, t5, t6, hal, hsc, -alen]
      · have e1 : parseAns (Syn.ndsB l) = .tuple [ndsV l', .agg [.int .i64 0, .int .i64 0]] := by unfold parseAns; rw [hb]
        rw [e1]
        have hsame : eqL sameN l l' = true := (eqL_map l l' sameN_er).2 hbe.symm
        simp [t3, t5, t6, hal, hsc, -alen]
        refine does_use (same_does (by omega) (fun x hx => ?_) _) ?_
        · have w1 := nds_wt_mem hx
          have w2 : x.wt = 1 + (x.ins.length + x.outs.length + x.locals.length + Syn.eqsWt x.eqs) := rfl
          have w3 := eqs_wt_len x.eqs
          refine ⟨fun q hq => ?_, by omega, by omega, by omega, by omega⟩
          have := eqs_wt_mem hq
          omega
        rintro r h ⟨rfl, rfl⟩
        rw [hsame]
        simp [t3, t5, t6, hal, hsc, -alen]
end Go.Proofs.YtpnjkagghmoamaaGreatDoor

namespace Go.Proofs.YtpnjkagghmoamaaGreatDoor
open Go Go.Abs Go.Lex
set_option maxRecDepth 100000
theorem brackets_law (H : AHeap) (a : AV) (ha : Shp Tryz.prog 8 9 [a]) : Does Tryz.prog (Gof tab) 5 [a] H fun r _ => r = .bool true := by
  obtain ⟨s, rfl, hl⟩ := shp_str ha
  exact brackets_run H s (by have : maxLen = 9223372036854775807 := rfl; omega)
end Go.Proofs.YtpnjkagghmoamaaGreatDoor
