/-
  A simplified meaning for Go code: ghost steps: a live block is taken as frozen; what is of no use is forgotten.
-/
import Derived.Test.YtcbiaeoladjecaaAbsX
namespace Go.Abs
open Go

def AHeap.Wf (H : AHeap) : Prop := ∀ i x, H.get i = some x → i < H.next ∧ AV.allLt H.next x.cellsList = true

theorem Rel.wf {E : Env} {H : AHeap} {w : World} (h : Rel E H w) : H.Wf := fun _ _ hi => ⟨h.lt hi, h.contents hi⟩

theorem AHeap.Wf.none {H : AHeap} (h : H.Wf) {i : Nat} (hi : H.next ≤ i) : H.get i = .none := by
  cases e : H.get i with
  | none => rfl
  | some x => have := (h i x e).1; omega

theorem Does.wf {P : Program} {G : Nat → Option AV} {f : FuncId} {args : List AV} {H : AHeap} {R : AV → AHeap → Prop} (_ : Enters P f) (h : H.Wf → AV.allLt H.next args = true → Does P G f args H R) : Does P G f args H R :=
  ⟨fun E w vs hR hG hv => (h hR.wf (VRels.idLt hR.dom hv)).run E w vs hR hG hv⟩
theorem Does.wfs {P : Program} {G : Nat → Option AV} {f : FuncId} {args : List AV} {H : AHeap} {R : AV → AHeap → Prop} (h : H.Wf → AV.allLt H.next args = true → Does P G f args H R) : Does P G f args H R :=
  ⟨fun E w vs hR hG hv => (h hR.wf (VRels.idLt hR.dom hv)).run E w vs hR hG hv⟩

/-- What a value and a heap may be taken as; ids below n stay. -/
def Ghost (n : Nat) (r : AV) (H : AHeap) (r' : AV) (H' : AHeap) : Prop :=
  ∀ E0 E w u, (∀ i p, E0.φ i = some p → i < n) → Ext E0 E → VRel E r u → Rel E H w → ∃ E', Ext E0 E' ∧ VRel E' r' u ∧ Rel E' H' w

theorem Ghost.refl {n : Nat} {r : AV} {H : AHeap} : Ghost n r H r H := fun _ E _ _ _ hx hv hR => ⟨E, hx, hv, hR⟩
theorem Ghost.trans {n : Nat} {r r' r'' : AV} {H H' H'' : AHeap} (h : Ghost n r H r' H') (g : Ghost n r' H' r'' H'') : Ghost n r H r'' H'' := fun E0 E w u hd hx hv hR => by
  obtain ⟨E', h1, h2, h3⟩ := h E0 E w u hd hx hv hR
  exact g E0 E' w u hd h1 h2 h3

theorem Does.ghost {P : Program} {G : Nat → Option AV} {f : FuncId} {args : List AV} {H : AHeap} {R R' : AV → AHeap → Prop} (h : Does P G f args H R) (hg : ∀ r H1, R r H1 → ∃ r' H2, Ghost H.next r H1 r' H2 ∧ R' r' H2) : Does P G f args H R' :=
  ⟨fun E w vs hR hG hv => (h.run E w vs hR hG hv).mono fun v w' ⟨r, H', E', g, e2, e3, e4⟩ => by
    obtain ⟨r', H2, k1, k2⟩ := hg r H' g
    obtain ⟨E2, m1, m2, m3⟩ := k1 E E' w' v hR.dom e2 e3 e4
    exact ⟨r', H2, E2, k2, m1, m2, m3⟩⟩

theorem Ghost.gc {n : Nat} {r : AV} {H H' : AHeap} (hn : n ≤ H'.next) (hr : r.idLt H'.next = true) (hs : ∀ i x, H'.get i = some x → H.get i = some x ∧ i < H'.next ∧ AV.allLt H'.next x.cellsList = true) : Ghost n r H r H' :=
  fun _ E _ _ hd hx hv hR => ⟨E.cut H'.next, Env.cut_ext hx fun i p hp => Nat.lt_of_lt_of_le (hd i p hp) hn, hv.cut hr, hR.gc hs⟩

/-- Back to the heap of the start. -/
theorem Ghost.back {r : AV} {H H0 : AHeap} (hw : H0.Wf) (hr : r.idLt H0.next = true) (hs : ∀ i x, H0.get i = some x → H.get i = some x) : Ghost H0.next r H r H0 :=
  Ghost.gc (Nat.le_refl _) hr fun i x hi => ⟨hs i x hi, (hw i x hi).1, (hw i x hi).2⟩

theorem Ghost.sub {n : Nat} {r : AV} {H H' : AHeap} (hn : H.next ≤ H'.next) (hs : ∀ i x, H'.get i = some x → H.get i = some x) : Ghost n r H r H' :=
  fun _ E _ _ _ hx hv hR => ⟨E, hx, hv, hR.sub hn hs⟩

mutual
def AV.frz (i : Nat) (cs : List AV) : AV → AV
  | .ptr j o => if j = i then .vptr (cs.drop o) else .ptr j o
  | .sl j o z len cap opn => if j = i then .vsl ((cs.drop o).take (len * z)) len else .sl j o z len cap opn
  | .vptr c => .vptr (AV.frzs i cs c)
  | .vsl c len => .vsl (AV.frzs i cs c) len
  | .func f a b => .func f (AV.frzs i cs a) (AV.frzs i cs b)
  | .iface t v => .iface t (AV.frz i cs v)
  | .agg c => .agg (AV.frzs i cs c)
  | .tuple c => .tuple (AV.frzs i cs c)
  | v => v
def AV.frzs (i : Nat) (cs : List AV) : List AV → List AV
  | [] => []
  | a :: as => AV.frz i cs a :: AV.frzs i cs as
end

mutual
theorem VRel.frz {E : Env} {i : Nat} {cs : List AV} {p : Place} (hp : E.φ i = some p) (hk : ∀ o, ∃ vs, InK E p.b (p.s + o) vs ∧ VRels E (cs.drop o) vs) : ∀ {a : AV} {v : Value}, VRel E a v → VRel E (a.frz i cs) v
  | _, _, .bool b => .bool b
  | _, _, .int k n => .int k n
  | _, _, .str s => .str s
  | _, _, .nilptr => .nilptr
  | _, _, .ptr (i := j) (o := o) h => by
    simp only [AV.frz]
    split
    · rename_i e; subst e
      rw [hp] at h; simp only [Option.some.injEq] at h; subst h
      obtain ⟨vs, h1, h2⟩ := hk o
      exact .vptr h1 h2
    · exact .ptr h
  | _, _, .vptr hK hv => .vptr hK (VRels.frz hp hk hv)
  | _, _, .nilsl => .nilsl
  | _, _, .sl (i := j) (o := o) (z := z) (len := len) h hl hc ho hn => by
    simp only [AV.frz]
    split
    · rename_i e; subst e
      rw [hp] at h; simp only [Option.some.injEq] at h; subst h
      obtain ⟨vs, h1, h2⟩ := hk o
      refine .vsl (vs := vs.take (len * z)) ?_ (h2.take _) (Nat.le_trans hl hc)
      rcases h1 with h1 | ⟨c, e, f, g1, g2⟩
      · left; rw [h1]; simp
      · exact .inr ⟨c, e, f, g1, (List.take_prefix _ _).trans g2⟩
    · exact .sl h hl hc ho hn
  | _, _, .vsl hK hv hl => .vsl hK (VRels.frz hp hk hv) hl
  | _, _, .vsl0 => .vsl0
  | _, _, .nilmap => .nilmap
  | _, _, .func hf hc => .func (VRels.frz hp hk hf) (VRels.frz hp hk hc)
  | _, _, .nilfunc => .nilfunc
  | _, _, .iface h => .iface (VRel.frz hp hk h)
  | _, _, .niliface => .niliface
  | _, _, .agg h => .agg (VRels.frz hp hk h)
  | _, _, .tuple h => .tuple (VRels.frz hp hk h)
theorem VRels.frz {E : Env} {i : Nat} {cs : List AV} {p : Place} (hp : E.φ i = some p) (hk : ∀ o, ∃ vs, InK E p.b (p.s + o) vs ∧ VRels E (cs.drop o) vs) : ∀ {as : List AV} {vs : List Value}, VRels E as vs → VRels E (AV.frzs i cs as) vs
  | _, _, .nil => .nil
  | _, _, .cons h t => .cons (VRel.frz hp hk h) (VRels.frz hp hk t)
end

def AHeap.frz (H : AHeap) (i : Nat) (cs : List AV) : AHeap := { next := H.next, get := fun j => if j = i then none else match H.get j with
  | some (.cells c) => some (.cells (AV.frzs i cs c))
  | none => none }

theorem Rel.frz {E : Env} {H : AHeap} {w : World} (h : Rel E H w) {i : Nat} {cs : List AV} (hi : H.get i = some (.cells cs)) :
    ∃ E', Ext E E' ∧ Rel E' (H.frz i cs) w ∧ ∀ {a : AV} {v : Value}, VRel E a v → VRel E' (a.frz i cs) v := by
  obtain ⟨p, hp⟩ := h.place hi
  obtain ⟨E', hx, hR, hk⟩ := h.freeze hi hp
  have hp' := hx.φ _ _ hp
  have sub : ∀ j x, (H.frz i cs).get j = some x → ∃ c, (H.kill i).get j = some (.cells c) ∧ x = .cells (AV.frzs i cs c) := by
    intro j x hj
    simp only [AHeap.frz] at hj
    split at hj
    · simp at hj
    · rename_i hne
      split at hj
      · rename_i c hc
        simp only [Option.some.injEq] at hj
        exact ⟨c, by simp [hne, hc], hj.symm⟩
      · simp at hj
  refine ⟨E', hx, ⟨hR.os, hR.out, hR.K, hR.F, hR.KF, hR.dom, fun j x hj => ?_, fun j k x y p q hj hk' => ?_⟩, fun hv => (hv.mono hx.knows).frz hp' hk⟩
  · obtain ⟨c, h1, rfl⟩ := sub j x hj
    obtain ⟨p, ob, g1, g2, g3, g4, c', e, fz, vs, k1, k2, k3, k4, k5⟩ := hR.live j _ h1
    exact ⟨p, ob, g1, g2, g3, g4, c', e, fz, vs, k1, k2, k3.frz hp' hk, k4, k5⟩
  · obtain ⟨c, h1, _⟩ := sub j x hj
    obtain ⟨c', h2, _⟩ := sub k y hk'
    exact hR.inj j k _ _ p q h1 h2

theorem Ghost.frz {n : Nat} {r : AV} {H : AHeap} {i : Nat} {cs : List AV} (hi : H.get i = some (.cells cs)) : Ghost n r H (r.frz i cs) (H.frz i cs) := fun _ _ _ _ _ hx hv hR => by
  obtain ⟨E', h1, h2, h3⟩ := hR.frz hi
  exact ⟨E', hx.trans h1, h3 hv, h2⟩

mutual
theorem AV.frz_lt {n i : Nat} {cs : List AV} (hi : n ≤ i) : ∀ (a : AV), a.idLt n = true → a.frz i cs = a
  | .bool _, _ => rfl
  | .int _ _, _ => rfl
  | .str _, _ => rfl
  | .nilptr, _ => rfl
  | .ptr j o, h => by simp only [AV.idLt, decide_eq_true_eq] at h; simp only [AV.frz]; rw [if_neg (by omega)]
  | .vptr c, h => by simp only [AV.frz]; rw [AV.frzs_lt hi c (by simpa [AV.idLt] using h)]
  | .nilsl, _ => rfl
  | .sl j _ _ _ _ _, h => by simp only [AV.idLt, decide_eq_true_eq] at h; simp only [AV.frz]; rw [if_neg (by omega)]
  | .vsl c _, h => by simp only [AV.frz]; rw [AV.frzs_lt hi c (by simpa [AV.idLt] using h)]
  | .nilmap, _ => rfl
  | .func _ a b, h => by simp only [AV.idLt, Bool.and_eq_true] at h; simp only [AV.frz]; rw [AV.frzs_lt hi a h.1, AV.frzs_lt hi b h.2]
  | .nilfunc, _ => rfl
  | .iface _ v, h => by simp only [AV.frz]; rw [AV.frz_lt hi v (by simpa [AV.idLt] using h)]
  | .niliface, _ => rfl
  | .agg c, h => by simp only [AV.frz]; rw [AV.frzs_lt hi c (by simpa [AV.idLt] using h)]
  | .tuple c, h => by simp only [AV.frz]; rw [AV.frzs_lt hi c (by simpa [AV.idLt] using h)]
theorem AV.frzs_lt {n i : Nat} {cs : List AV} (hi : n ≤ i) : ∀ (as : List AV), AV.allLt n as = true → AV.frzs i cs as = as
  | [], _ => rfl
  | a :: as, h => by simp only [AV.allLt, Bool.and_eq_true] at h; simp only [AV.frzs]; rw [AV.frz_lt hi a h.1, AV.frzs_lt hi as h.2]
end

theorem AHeap.frz_old {H0 H : AHeap} (hw : H0.Wf) {i : Nat} (hi : H0.next ≤ i) {cs : List AV} (hs : ∀ j x, H0.get j = some x → H.get j = some x) : ∀ j x, H0.get j = some x → (H.frz i cs).get j = some x := by
  intro j x hj
  have h1 := hw j x hj
  simp only [AHeap.frz]
  rw [if_neg (by omega), hs j x hj]
  cases x with
  | cells c => simp only; rw [AV.frzs_lt hi c h1.2]

/-- A fresh block of a call's is taken as frozen, and all else that it laid is forgotten. -/
theorem Does.frozen {P : Program} {G : Nat → Option AV} {f : FuncId} {args : List AV} {H : AHeap} {R R' : AV → AHeap → Prop} (h : Does P G f args H R)
    (hg : H.Wf → AV.allLt H.next args = true → ∀ r H1, R r H1 → ∃ i cs, H.next ≤ i ∧ H1.get i = some (.cells cs) ∧ (∀ j x, H.get j = some x → H1.get j = some x) ∧ (r.frz i cs).idLt H.next = true ∧ R' (r.frz i cs) H) : Does P G f args H R' :=
  Does.wfs fun hw ha => h.ghost fun r H1 hr => by
    obtain ⟨i, cs, h1, h2, h3, h4, h5⟩ := hg hw ha r H1 hr
    exact ⟨_, H, (Ghost.frz h2).trans (Ghost.back hw h4 (AHeap.frz_old hw h1 h3)), h5⟩

/-- What a call laid is forgotten. -/
theorem Does.forgot {P : Program} {G : Nat → Option AV} {f : FuncId} {args : List AV} {H : AHeap} {R R' : AV → AHeap → Prop} (h : Does P G f args H R)
    (hg : H.Wf → AV.allLt H.next args = true → ∀ r H1, R r H1 → (∀ j x, H.get j = some x → H1.get j = some x) ∧ r.idLt H.next = true ∧ R' r H) : Does P G f args H R' :=
  Does.wfs fun hw ha => h.ghost fun r H1 hr => by
    obtain ⟨h3, h4, h5⟩ := hg hw ha r H1 hr
    exact ⟨_, H, Ghost.back hw h4 h3, h5⟩

theorem does_usew {P : Program} {G : Nat → Option AV} {f : FuncId} {args : List AV} {H : AHeap} {R : AV → AHeap → Prop} {R' : Hid (AV → AHeap → Prop)} (h : Does P G f args H R) (g : ∀ r H', R r H' → H'.Wf → r.idLt H'.next = true → R'.v r H') : @DoesH P G f args H R' :=
  ⟨fun E w vs hR hG hv => (h.run E w vs hR hG hv).mono fun _ _ ⟨r, H', E', g1, g3, g4, g5⟩ => ⟨r, H', E', g _ _ g1 g5.wf (VRel.idLt g5.dom g4), g3, g4, g5⟩⟩

end Go.Abs
