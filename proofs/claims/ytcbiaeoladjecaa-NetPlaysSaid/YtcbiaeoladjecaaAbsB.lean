/-
  A simplified meaning for Go code, second part: the model's primitive steps (a load, a store, a new block, a block that is frozen, blocks forgotten) under the relation.
-/
import Derived.Test.YtcbiaeoladjecaaAbsA
namespace Go.Abs
open Go

theorem heap_setCell (w : World) (B j : Nat) (v : Value) {c : Array Value} {e : TypeId} {fz : Nat × Nat} (hb : w.heap[B]? = some (.cells c e fz)) :
    (w.setCell ⟨B, j, none⟩ v).heap[B]? = some (.cells (c.setIfInBounds j v) e fz) := by
  simp only [World.setCell, Array.getElem?_modify]
  simp [hb]

theorem heap_setCell_ne (w : World) (B j C : Nat) (v : Value) (h : C ≠ B) : (w.setCell ⟨B, j, none⟩ v).heap[C]? = w.heap[C]? := by
  simp only [World.setCell, Array.getElem?_modify]
  rw [if_neg (fun e => h e.symm)]

theorem cell?_of {w : World} {B j : Nat} {c : Array Value} {e : TypeId} {fz : Nat × Nat} (hb : w.heap[B]? = some (.cells c e fz)) : w.cell? ⟨B, j, none⟩ = c[j]? := by
  simp [World.cell?, hb]

theorem frozen?_of {w : World} {B j : Nat} {c : Array Value} {e : TypeId} {fz : Nat × Nat} (hb : w.heap[B]? = some (.cells c e fz)) (h : ¬ (fz.1 ≤ j ∧ j < fz.2)) : w.frozen? ⟨B, j, none⟩ = false := by
  have hh : fz.1 ≤ j → fz.2 ≤ j := fun a => Nat.le_of_not_lt fun b => h ⟨a, b⟩
  obtain ⟨lo, hi⟩ := fz
  simpa [World.frozen?, hb] using hh

theorem prefix_get? {α : Type} {vs l : List α} (h : vs <+: l) {j : Nat} {v : α} (hv : vs[j]? = some v) : l[j]? = some v := by
  obtain ⟨t, rfl⟩ := h
  have : j < vs.length := by
    rcases Nat.lt_or_ge j vs.length with q | q
    · exact q
    · rw [List.getElem?_eq_none q] at hv; simp at hv
  rw [List.getElem?_append_left this]; exact hv

theorem prefix_set {α : Type} {vs l : List α} (h : vs <+: l) {j : Nat} (v : α) (hj : j < vs.length) : vs.set j v <+: l.set j v := by
  obtain ⟨t, rfl⟩ := h
  rw [List.set_append_left _ _ hj]
  exact List.prefix_append _ _

theorem prefix_take_drop {α : Type} {vs l : List α} (h : vs <+: l) (o : Nat) : vs.drop o <+: l.drop o := by
  obtain ⟨t, rfl⟩ := h
  by_cases ho : o ≤ vs.length
  · rw [List.drop_append_of_le_length ho]; exact List.prefix_append _ _
  · rw [List.drop_eq_nil_of_le (by omega)]; exact List.nil_prefix

/-- The cells of a live block, in the model. -/
theorem Rel.cellsOf {E : Env} {H : AHeap} {w : World} (h : Rel E H w) {i : Nat} {cs : List AV} (hi : H.get i = some (.cells cs)) {p : Place} (hp : E.φ i = some p) :
    ∃ c e fz vs, w.heap[p.b]? = some (.cells c e fz) ∧ c.size = p.n ∧ VRels E cs vs ∧ vs <+: c.toList.drop p.s ∧ Unfr fz p.n ∧ E.K p.b = none ∧ E.F p.b = none := by
  obtain ⟨q, ob, h1, h2, h3, h4, c, e, fz, vs, rfl, g1, g2, g3, g4⟩ := h.live i _ hi
  rw [hp] at h1; cases h1
  exact ⟨c, e, fz, vs, h4, g1, g2, g3, g4, h2, h3⟩

theorem Rel.place {E : Env} {H : AHeap} {w : World} (h : Rel E H w) {i : Nat} {x : AObj} (hi : H.get i = some x) : ∃ p, E.φ i = some p := by
  obtain ⟨p, _, hp, _⟩ := h.live i _ hi
  exact ⟨p, hp⟩

/-- One cell of a live block, read. -/
theorem Rel.cell {E : Env} {H : AHeap} {w : World} (h : Rel E H w) {i : Nat} {cs : List AV} (hi : H.get i = some (.cells cs)) {p : Place} (hp : E.φ i = some p) {o : Nat} {a : AV} (ho : cs[o]? = some a) :
    ∃ v, w.cell? ⟨p.b, p.s + o, none⟩ = some v ∧ VRel E a v := by
  obtain ⟨c, e, fz, vs, h1, h2, h3, h4, _⟩ := h.cellsOf hi hp
  obtain ⟨v, hv, hr⟩ := h3.get? ho
  refine ⟨v, ?_, hr⟩
  rw [cell?_of h1]
  have := prefix_get? h4 hv
  rw [List.getElem?_drop] at this
  simpa using this

def splice (cs : List AV) (o : Nat) (as : List AV) : List AV := cs.take o ++ (as ++ cs.drop (o + as.length))

theorem splice_nil (cs : List AV) (o : Nat) : splice cs o [] = cs := by simp [splice]

theorem splice_cons (cs : List AV) (o : Nat) (a : AV) (as : List AV) (h : o < cs.length) : splice cs o (a :: as) = splice (cs.set o a) (o + 1) as := by
  unfold splice
  apply List.ext_getElem?
  intro j
  simp only [List.getElem?_append, List.length_take, List.length_set, List.length_cons, List.cons_append]
  have hm : min o cs.length = o := by omega
  have hm' : min (o + 1) cs.length = o + 1 := by omega
  rw [hm, hm']
  by_cases h1 : j < o
  · rw [if_pos h1, if_pos (by omega)]
    rw [List.getElem?_take_of_lt h1, List.getElem?_take_of_lt (by omega), List.getElem?_set_ne (by omega)]
  · rw [if_neg h1]
    by_cases h2 : j = o
    · subst h2
      rw [if_pos (by omega), List.getElem?_take_of_lt (by omega)]
      simp [h]
    · rw [if_neg (by omega)]
      obtain ⟨k, rfl⟩ : ∃ k, j = o + 1 + k := ⟨j - (o + 1), by omega⟩
      rw [show o + 1 + k - o = k + 1 by omega, show o + 1 + k - (o + 1) = k by omega]
      simp only [List.getElem?_cons_succ, List.getElem?_append]
      split
      · rfl
      · rw [List.getElem?_drop, List.getElem?_drop, List.getElem?_set_ne (by omega)]
        congr 1; omega

theorem splice_length (cs : List AV) (o : Nat) (as : List AV) (h : o + as.length ≤ cs.length) : (splice cs o as).length = cs.length := by
  simp [splice]; omega

/-- One cell of a live block, written. -/
theorem Rel.write {E : Env} {H : AHeap} {w : World} (h : Rel E H w) {i : Nat} {cs : List AV} (hi : H.get i = some (.cells cs)) {p : Place} (hp : E.φ i = some p) {o : Nat} (ho : o < cs.length)
    {a : AV} {v : Value} (hv : VRel E a v) (hs : a.scalar = true) (P : Program) :
    (store ⟨p.b, p.s + o, none⟩ v).run P w = .ok () (w.setCell ⟨p.b, p.s + o, none⟩ v) ∧ Rel E (H.set i (.cells (cs.set o a))) (w.setCell ⟨p.b, p.s + o, none⟩ v) := by
  obtain ⟨c, e, fz, vs, h1, h2, h3, h4, h5, h6, h7⟩ := h.cellsOf hi hp
  have hl := h3.length
  have hpl := h4.length_le
  simp only [List.length_drop, Array.length_toList] at hpl
  have hfr : w.frozen? ⟨p.b, p.s + o, none⟩ = false := frozen?_of h1 (h5.out _ (by omega))
  have hc : ∃ u, w.cell? ⟨p.b, p.s + o, none⟩ = some u := by
    rw [cell?_of h1]; exact ⟨c[p.s + o]'(by omega), Array.getElem?_eq_getElem (by omega)⟩
  constructor
  · obtain ⟨u, hu⟩ := hc
    rw [run_store P w _ v _ (hv.oneCell hs)]
    simp [hu, hfr]
  · have hne : ∀ B o', w.heap[B]? = some o' → B ≠ p.b → (w.setCell ⟨p.b, p.s + o, none⟩ v).heap[B]? = some o' := fun B o' hb hB => by rw [heap_setCell_ne _ _ _ _ _ hB]; exact hb
    refine ⟨h.os, h.out, fun B o' hb => hne B o' (h.K B o' hb) (fun e => by subst e; rw [h6] at hb; simp at hb), fun B o' hb => hne B o' (h.F B o' hb) (fun e => by subst e; rw [h7] at hb; simp at hb), h.KF, h.dom, ?_, ?_⟩
    · intro j x hj
      simp only [AHeap.set] at hj
      split at hj
      · rename_i hji; subst hji
        simp at hj; subst hj
        refine ⟨p, _, hp, h6, h7, heap_setCell _ _ _ _ h1, _, e, fz, vs.set o v, rfl, by simpa using h2, h3.set o hv, ?_, h5⟩
        have e1 : (c.setIfInBounds (p.s + o) v).toList.drop p.s = (c.toList.drop p.s).set o v := by
          rw [Array.toList_setIfInBounds, List.drop_set, if_neg (by omega)]
          congr 1; omega
        rw [e1]
        exact prefix_set h4 v (by omega)
      · rename_i hji
        obtain ⟨q, ob, g1, g2, g3, g4, g5⟩ := h.live j x hj
        refine ⟨q, ob, g1, g2, g3, hne _ _ g4 (fun e => hji ?_), g5⟩
        exact h.inj j i x _ q p hj hi g1 hp e
    · intro a' b' x y q r hx hy
      have tr : ∀ k z, (H.set i (.cells (cs.set o a))).get k = some z → ∃ z', H.get k = some z' := fun k z hk => by
        simp only [AHeap.set] at hk
        split at hk
        · rename_i e; subst e; exact ⟨_, hi⟩
        · exact ⟨z, hk⟩
      obtain ⟨x', hx'⟩ := tr _ _ hx
      obtain ⟨y', hy'⟩ := tr _ _ hy
      exact h.inj a' b' x' y' q r hx' hy'

theorem AHeap.set_set (H : AHeap) (i : Nat) (x y : AObj) : (H.set i x).set i y = H.set i y := by
  simp only [AHeap.set]
  congr 1
  funext j
  split <;> rfl

theorem AHeap.set_self (H : AHeap) (i : Nat) (x : AObj) (h : H.get i = some x) : H.set i x = H := by
  cases H with
  | mk n g =>
    simp only [AHeap.set]
    congr 1
    funext j
    split
    · rename_i e; subst e; exact h.symm
    · rfl

@[simp] theorem AHeap.get_set_same (H : AHeap) (i : Nat) (x : AObj) : (H.set i x).get i = some x := by simp [AHeap.set]

theorem Addr.add_mk (B s n : Nat) : (Addr.add ⟨B, s, none⟩ n) = ⟨B, s + n, none⟩ := by
  unfold Addr.add
  split
  · rename_i e; subst e; rfl
  · rfl

/-- Cells written one behind the other. -/
theorem Rel.writes {E : Env} (P : Program) (i : Nat) {p : Place} (hp : E.φ i = some p) : ∀ (as : List AV) (vs : List Value) (cs : List AV) (H : AHeap) (w : World) (o k : Nat),
    Rel E H w → H.get i = some (.cells cs) → VRels E as vs → (∀ a ∈ as, a.scalar = true) → o + k + as.length ≤ cs.length →
    ∃ w', (storeCells ⟨p.b, p.s + o, none⟩ vs k).run P w = .ok () w' ∧ Rel E (H.set i (.cells (splice cs (o + k) as))) w' := by
  intro as
  induction as with
  | nil =>
    intro vs cs H w o k h hi hv _ _
    cases hv
    refine ⟨w, by simp [storeCells], ?_⟩
    rw [splice_nil, AHeap.set_self _ _ _ hi]; exact h
  | cons a as ih =>
    intro vs cs H w o k h hi hv hs hl
    cases hv with
    | cons hv ht =>
      rename_i v vs
      simp only [List.length_cons] at hl
      have hlt : o + k < cs.length := by omega
      have hw := h.write hi hp (o := o + k) hlt hv (hs a (by simp)) P
      obtain ⟨w', g1, g2⟩ := ih vs (cs.set (o + k) a) (H.set i (.cells (cs.set (o + k) a))) _ o (k + 1) hw.2 (by simp) ht (fun b hb => hs b (by simp [hb])) (by simp; omega)
      refine ⟨w', ?_, ?_⟩
      · simp only [storeCells, Sem.run_bind, Addr.add_mk]
        rw [show p.s + o + k = p.s + (o + k) by omega, hw.1]
        simpa using g1
      · rw [AHeap.set_set] at g2
        rw [splice_cons _ _ _ _ hlt]
        exact g2

/-- Cells of a live block, read one behind the other. -/
theorem Rel.reads {E : Env} {H : AHeap} {w : World} (h : Rel E H w) (P : Program) {i : Nat} {cs : List AV} (hi : H.get i = some (.cells cs)) {p : Place} (hp : E.φ i = some p) (o n : Nat) (hl : o + n ≤ cs.length) :
    ∃ vs, (loadCells ⟨p.b, p.s + o, none⟩ n).run P w = .ok vs.toArray w ∧ VRels E ((cs.drop o).take n) vs := by
  obtain ⟨c, e, fz, us, h1, h2, h3, h4, _⟩ := h.cellsOf hi hp
  have hul := h3.length
  refine ⟨(us.drop o).take n, ?_, (h3.drop o).take n⟩
  have hlen : ((us.drop o).take n).length = n := by simp; omega
  have := run_loadCells_list (P := P) w ⟨p.b, p.s + o, none⟩ ((us.drop o).take n) (fun j v hj => by
    rw [Addr.add_mk, cell?_of h1]
    have hjn : j < n := by
      rcases Nat.lt_or_ge j n with q | q
      · exact q
      · rw [List.getElem?_take_eq_none q] at hj; simp at hj
    rw [List.getElem?_take_of_lt hjn, List.getElem?_drop] at hj
    have := prefix_get? h4 hj
    rw [List.getElem?_drop] at this
    rw [show p.s + o + j = p.s + (o + j) by omega]
    simpa using this)
  rw [hlen] at this
  exact this

/-- Cells of frozen memory, read one behind the other. -/
theorem InK.reads {E : Env} {H : AHeap} {w : World} (h : Rel E H w) (P : Program) {B o : Nat} {us : List Value} (hk : InK E B o us) (n : Nat) (hl : n ≤ us.length) :
    (loadCells ⟨B, o, none⟩ n).run P w = .ok (us.take n).toArray w := by
  rcases hk with hk | ⟨c, e, f, hk, hp⟩
  · subst hk
    simp at hl; subst hl
    simp [loadCells, loadCellsFrom]
  · have h1 := h.K _ _ hk
    have hlen : (us.take n).length = n := by simp; omega
    have := run_loadCells_list (P := P) w ⟨B, o, none⟩ (us.take n) (fun j v hj => by
      rw [Addr.add_mk, cell?_of h1]
      have hjn : j < n := by
        rcases Nat.lt_or_ge j n with q | q
        · exact q
        · rw [List.getElem?_take_eq_none q] at hj; simp at hj
      rw [List.getElem?_take_of_lt hjn] at hj
      have := prefix_get? hp hj
      rw [List.getElem?_drop] at this
      simpa using this)
    rw [hlen] at this
    exact this

theorem InK.read1 {E : Env} {H : AHeap} {w : World} (h : Rel E H w) {B o : Nat} {us : List Value} (hk : InK E B o us) {v : Value} (hv : us[0]? = some v) : w.cell? ⟨B, o, none⟩ = some v := by
  rcases hk with hk | ⟨c, e, f, hk, hp⟩
  · subst hk; simp at hv
  · rw [cell?_of (h.K _ _ hk)]
    have := prefix_get? hp hv
    rw [List.getElem?_drop] at this
    simpa using this

/-- A live block becomes frozen memory. -/
theorem Rel.freeze {E : Env} {H : AHeap} {w : World} (h : Rel E H w) {i : Nat} {cs : List AV} (hi : H.get i = some (.cells cs)) {p : Place} (hp : E.φ i = some p) :
    ∃ E', Ext E E' ∧ Rel E' (H.kill i) w ∧ ∀ o, ∃ vs, InK E' p.b (p.s + o) vs ∧ VRels E' (cs.drop o) vs := by
  obtain ⟨c, e, fz, us, h1, h2, h3, h4, h5, h6, h7⟩ := h.cellsOf hi hp
  have hx : Ext E (E.freeze p.b (.cells c e fz)) := by
    refine ⟨fun _ _ h => h, fun B o hb => ?_, rfl, rfl, rfl⟩
    simp only [Env.freeze]
    split
    · rename_i e; subst e; rw [h6] at hb; simp at hb
    · exact hb
  refine ⟨E.freeze p.b (.cells c e fz), hx, ?_, ?_⟩
  · refine ⟨h.os, h.out, ?_, h.F, ?_, h.dom, ?_, ?_⟩
    · intro B o hb
      simp only [Env.freeze] at hb
      split at hb
      · rename_i e; subst e; simp at hb; subst hb; exact h1
      · exact h.K B o hb
    · intro B
      simp only [Env.freeze]
      split
      · rename_i e; subst e; exact .inr h7
      · exact h.KF B
    · intro j x hj
      simp only [AHeap.kill] at hj
      split at hj
      · simp at hj
      · rename_i hji
        obtain ⟨q, ob, g1, g2, g3, g4, g5⟩ := h.live j x hj
        refine ⟨q, ob, g1, ?_, g3, g4, g5.mono hx.knows⟩
        simp only [Env.freeze]
        split
        · rename_i e; exact absurd (h.inj j i x _ q p hj hi g1 hp e) hji
        · exact g2
    · intro a b x y q r hx hy
      simp only [AHeap.kill] at hx hy
      split at hx <;> split at hy <;> first | (simp at hx; done) | (simp at hy; done) | exact h.inj a b x y q r hx hy
  · intro o
    refine ⟨us.drop o, .inr ⟨c, e, fz, by simp [Env.freeze], ?_⟩, (h3.mono hx.knows).drop o⟩
    have := prefix_take_drop h4 o
    rwa [List.drop_drop] at this

/-- A value's, a list's ids lie below n. -/
def AObj.cellsList : AObj → List AV
  | .cells cs => cs

mutual
def AV.idLt (n : Nat) : AV → Bool
  | .ptr i _ => decide (i < n)
  | .sl i _ _ _ _ _ => decide (i < n)
  | .vptr cs => AV.allLt n cs
  | .vsl cs _ => AV.allLt n cs
  | .func _ f c => AV.allLt n f && AV.allLt n c
  | .iface _ v => AV.idLt n v
  | .agg cs => AV.allLt n cs
  | .tuple cs => AV.allLt n cs
  | _ => true
def AV.allLt (n : Nat) : List AV → Bool
  | [] => true
  | a :: as => AV.idLt n a && AV.allLt n as
end

/-- The places of ids below n alone. -/
def Env.cut (E : Env) (n : Nat) : Env := { E with φ := fun j => if j < n then E.φ j else none }

mutual
theorem VRel.cut {E : Env} {n : Nat} : ∀ {a : AV} {v : Value}, VRel E a v → a.idLt n = true → VRel (E.cut n) a v
  | _, _, .bool b, _ => .bool b
  | _, _, .int k n, _ => .int k n
  | _, _, .str s, _ => .str s
  | _, _, .nilptr, _ => .nilptr
  | _, _, .ptr h, hb => .ptr (by simp [AV.idLt] at hb; simp [Env.cut, hb, h])
  | _, _, .vptr hK hv, hb => .vptr hK (VRels.cut hv (by simpa [AV.idLt] using hb))
  | _, _, .nilsl, _ => .nilsl
  | _, _, .sl h hl hc ho hn, hb => .sl (by simp [AV.idLt] at hb; simp [Env.cut, hb, h]) hl hc ho hn
  | _, _, .vsl hK hv hl, hb => .vsl hK (VRels.cut hv (by simpa [AV.idLt] using hb)) hl
  | _, _, .vsl0, _ => .vsl0
  | _, _, .nilmap, _ => .nilmap
  | _, _, .func hf hc, hb => .func (VRels.cut hf (by simp [AV.idLt] at hb; exact hb.1)) (VRels.cut hc (by simp [AV.idLt] at hb; exact hb.2))
  | _, _, .nilfunc, _ => .nilfunc
  | _, _, .iface h, hb => .iface (VRel.cut h (by simpa [AV.idLt] using hb))
  | _, _, .niliface, _ => .niliface
  | _, _, .agg h, hb => .agg (VRels.cut h (by simpa [AV.idLt] using hb))
  | _, _, .tuple h, hb => .tuple (VRels.cut h (by simpa [AV.idLt] using hb))
theorem VRels.cut {E : Env} {n : Nat} : ∀ {as : List AV} {vs : List Value}, VRels E as vs → AV.allLt n as = true → VRels (E.cut n) as vs
  | _, _, .nil, _ => .nil
  | _, _, .cons h t, hb => .cons (VRel.cut h (by simp [AV.allLt] at hb; exact hb.1)) (VRels.cut t (by simp [AV.allLt] at hb; exact hb.2))
end

/-- Behind a call whatever it laid of its own is forgotten, ids and all. -/
theorem Rel.gc {E : Env} {H H' : AHeap} {w : World} (h : Rel E H w) (hs : ∀ i x, H'.get i = some x → H.get i = some x ∧ i < H'.next ∧ AV.allLt H'.next x.cellsList = true) : Rel (E.cut H'.next) H' w := by
  refine ⟨h.os, h.out, h.K, h.F, h.KF, ?_, ?_, ?_⟩
  · intro i p hp
    simp only [Env.cut] at hp
    split at hp
    · assumption
    · simp at hp
  · intro i x hi
    obtain ⟨h1, h2, h3⟩ := hs i x hi
    obtain ⟨p, ob, g1, g2, g3, g4, g5⟩ := h.live i x h1
    refine ⟨p, ob, by simp [Env.cut, h2, g1], g2, g3, g4, ?_⟩
    cases x with
    | cells cs =>
      obtain ⟨c, e, fz, vs, k1, k2, k3, k4, k5⟩ := g5
      exact ⟨c, e, fz, vs, k1, k2, k3.cut (by simpa [AObj.cellsList] using h3), k4, k5⟩
  · intro i j x y p q hi hj hp hq
    simp only [Env.cut] at hp hq
    split at hp <;> split at hq <;> first | (simp at hp; done) | (simp at hq; done) | skip
    exact h.inj i j x y p q (hs i x hi).1 (hs j y hj).1 hp hq

theorem Env.cut_ext {E E' : Env} {n : Nat} (x : Ext E E') (hd : ∀ i p, E.φ i = some p → i < n) : Ext E (E'.cut n) :=
  ⟨fun i p hp => by simp [Env.cut, hd i p hp, x.φ i p hp], x.K, x.F, x.os, x.out⟩

end Go.Abs
