/-
  A simplified meaning for Go code, fourteenth part: a region that draws its order (first half: the frame).
-/
import Derived.Test.YtcbiaeoladjecaaAbsM
namespace Go.Abs
open Go

mutual
theorem VRel.idLt {E : Env} {n : Nat} (hd : ∀ i p, E.φ i = some p → i < n) : ∀ {a : AV} {v : Value}, VRel E a v → a.idLt n = true
  | _, _, .bool b => rfl
  | _, _, .int k n => rfl
  | _, _, .str s => rfl
  | _, _, .nilptr => rfl
  | _, _, .ptr h => by simp [AV.idLt, hd _ _ h]
  | _, _, .vptr hK hv => by simp [AV.idLt, VRels.idLt hd hv]
  | _, _, .nilsl => rfl
  | _, _, .sl h hl hc ho hn => by simp [AV.idLt, hd _ _ h]
  | _, _, .vsl hK hv hl => by simp [AV.idLt, VRels.idLt hd hv]
  | _, _, .vsl0 => by simp [AV.idLt, AV.allLt]
  | _, _, .nilmap => rfl
  | _, _, .func hf hc => by simp [AV.idLt, VRels.idLt hd hf, VRels.idLt hd hc]
  | _, _, .nilfunc => rfl
  | _, _, .iface h => by simp [AV.idLt, VRel.idLt hd h]
  | _, _, .niliface => rfl
  | _, _, .agg h => by simp [AV.idLt, VRels.idLt hd h]
  | _, _, .tuple h => by simp [AV.idLt, VRels.idLt hd h]
theorem VRels.idLt {E : Env} {n : Nat} (hd : ∀ i p, E.φ i = some p → i < n) : ∀ {as : List AV} {vs : List Value}, VRels E as vs → AV.allLt n as = true
  | _, _, .nil => rfl
  | _, _, .cons h t => by simp [AV.allLt, VRel.idLt hd h, VRels.idLt hd t]
end

theorem Rel.contents {E : Env} {H : AHeap} {w : World} (h : Rel E H w) {i : Nat} {x : AObj} (hi : H.get i = some x) : AV.allLt H.next x.cellsList = true := by
  obtain ⟨p, ob, _, _, _, _, g5⟩ := h.live i x hi
  cases x with
  | cells cs =>
    obtain ⟨c, e, fz, vs, _, _, k3, _⟩ := g5
    exact VRels.idLt h.dom k3

/-- The blocks of X laid over H. -/
def AHeap.over (H X : AHeap) : AHeap := { next := X.next, get := fun i => match X.get i with | some x => some x | none => H.get i }

/-- The frame: what E knows of X's blocks put aside. -/
noncomputable def Env.aside (E : Env) (X : AHeap) (w : World) (n : Nat) : Env :=
  { E with φ := fun i => if i < n then E.φ i else none
           F := fun B => match E.F B with
             | some o => some o
             | none => open Classical in if ∃ i x p, X.get i = some x ∧ E.φ i = some p ∧ p.b = B then w.heap[B]? else none }

theorem AHeap.over_left {H X : AHeap} (hX : ∀ i x, X.get i = some x → H.next ≤ i) {i : Nat} {x : AObj} (hlt : i < H.next) (hi : H.get i = some x) : (H.over X).get i = some x := by
  simp only [AHeap.over]
  cases hx : X.get i with
  | none => exact hi
  | some y => have := hX i y hx; omega

theorem AHeap.over_right {H X : AHeap} {i : Nat} {x : AObj} (hi : X.get i = some x) : (H.over X).get i = some x := by simp only [AHeap.over, hi]

theorem Rel.aside {E : Env} {H X : AHeap} {w : World} (h : Rel E (H.over X) w) (hX : ∀ i x, X.get i = some x → H.next ≤ i) (hH : ∀ i x, H.get i = some x → i < H.next)
    (hc : ∀ i x, H.get i = some x → AV.allLt H.next x.cellsList = true) : Rel (E.aside X w H.next) H w := by
  have hov : ∀ i x, H.get i = some x → (H.over X).get i = some x := fun i x hi => AHeap.over_left hX (hH i x hi) hi
  refine ⟨h.os, h.out, h.K, ?_, ?_, ?_, ?_, ?_⟩
  · intro B o hB
    simp only [Env.aside] at hB
    split at hB
    · rename_i o' ho; simp only [Option.some.injEq] at hB; subst hB; exact h.F B _ ho
    · split at hB
      · exact hB
      · simp at hB
  · intro B
    simp only [Env.aside]
    rcases h.KF B with hk | hf
    · exact .inl hk
    · rw [hf]
      simp only
      split
      · rename_i hex
        obtain ⟨i, x, p, h1, h2, h3⟩ := hex
        obtain ⟨q, ob, g1, g2, _⟩ := h.live i x (AHeap.over_right h1)
        rw [h2] at g1; cases g1
        rw [← h3]; exact .inl g2
      · exact .inr rfl
  · intro i p hp
    simp only [Env.aside] at hp
    split at hp
    · assumption
    · simp at hp
  · intro i x hi
    obtain ⟨p, ob, g1, g2, g3, g4, g5⟩ := h.live i x (hov i x hi)
    have hlt := hH i x hi
    refine ⟨p, ob, by simp [Env.aside, hlt, g1], g2, ?_, g4, ?_⟩
    · simp only [Env.aside, g3]
      rw [if_neg]
      rintro ⟨j, y, q, h1, h2, h3⟩
      have := h.inj i j x y p q (hov i x hi) (AHeap.over_right h1) g1 h2 h3.symm
      subst this
      have := hX _ _ h1
      omega
    · have hcx := hc i x hi
      cases x with
      | cells cs =>
        obtain ⟨c, e, fz, vs, k1, k2, k3, k4, k5⟩ := g5
        refine ⟨c, e, fz, vs, k1, k2, ?_, k4, k5⟩
        exact VRels.mono (E := E.cut H.next) (E' := E.aside X w H.next) ⟨fun _ _ h => h, fun _ _ h => h⟩ (k3.cut hcx)
  · intro i j x y p q hi hj hp hq
    simp only [Env.aside] at hp hq
    rw [if_pos (hH i x hi)] at hp
    rw [if_pos (hH j y hj)] at hq
    exact h.inj i j x y p q (hov i x hi) (hov j y hj) hp hq

/-- Behind a step with X put aside: X taken back. -/
theorem Rel.back {E E' : Env} {H H' X : AHeap} {w w' : World} (h : Rel E (H.over X) w) (hn' : H'.next ≤ X.next)
    (hdom : ∀ i p, E.φ i = some p → i < H.next ∨ H'.next ≤ i) (hx : Ext (E.aside X w H.next) E') (h' : Rel E' H' w') :
    ∃ E'', Ext E E'' ∧ Knows E' E'' ∧ Rel E'' (H'.over X) w' ∧ ∀ i p, E''.φ i = some p → i < H'.next ∨ E.φ i = some p := by
  have hF : ∀ B o, E.F B = some o → E'.F B = some o := fun B o hB => by rw [hx.F]; simp only [Env.aside, hB]
  have hFX : ∀ i x p, X.get i = some x → E.φ i = some p → ∃ ob, w.heap[p.b]? = some ob ∧ E'.F p.b = some ob := fun i x p hi hp => by
    obtain ⟨q, ob, g1, g2, g3, g4, g5⟩ := h.live i x (AHeap.over_right hi)
    rw [hp] at g1; cases g1
    refine ⟨ob, g4, ?_⟩
    rw [hx.F]
    simp only [Env.aside, g3]
    rw [if_pos ⟨i, x, p, hi, hp, rfl⟩]
    exact g4
  have hlow : ∀ i p, E.φ i = some p → i < H.next → E'.φ i = some p := fun i p hp hi => hx.φ i p (by simp [Env.aside, hi, hp])
  let E'' : Env := { E' with φ := fun i => match E.φ i with | some p => some p | none => E'.φ i, F := E.F }
  have k1 : Ext E E'' := ⟨fun i p hp => by simp only [E'', hp], fun B o hB => hx.K B o hB, rfl, hx.os, hx.out⟩
  have k2 : Knows E' E'' := by
    refine ⟨fun i q hq => ?_, fun _ _ h => h⟩
    simp only [E'']
    cases hp : E.φ i with
    | none => exact hq
    | some p =>
      have hlt := h'.dom i q hq
      rcases hdom i p hp with hi | hi
      · have := hlow i p hp hi
        rw [hq] at this; cases this; rfl
      · omega
  refine ⟨E'', k1, k2, ?_, ?_⟩
  · refine ⟨h'.os, h'.out, h'.K, fun B o hB => h'.F B o (hF B o hB), ?_, ?_, ?_, ?_⟩
    · intro B
      rcases h'.KF B with hk | hf
      · exact .inl hk
      · right
        show E.F B = none
        cases hb : E.F B with
        | none => rfl
        | some o => rw [hF B o hb] at hf; simp at hf
    · intro i p hp
      simp only [E''] at hp
      split at hp
      · rename_i q hq
        exact h.dom i q hq
      · have := h'.dom i p hp
        show i < X.next
        omega
    · intro i x hi
      simp only [AHeap.over] at hi
      split at hi
      · rename_i y hy
        simp only [Option.some.injEq] at hi; subst hi
        obtain ⟨p, ob, g1, g2, g3, g4, g5⟩ := h.live i y (AHeap.over_right hy)
        obtain ⟨ob', q1, q2⟩ := hFX i y p hy g1
        rw [g4] at q1; cases q1
        refine ⟨p, ob, k1.φ _ _ g1, ?_, g3, h'.F _ _ q2, g5.mono k1.knows⟩
        rcases h'.KF p.b with hk | hf
        · exact hk
        · rw [q2] at hf; simp at hf
      · obtain ⟨p, ob, g1, g2, g3, g4, g5⟩ := h'.live i x hi
        refine ⟨p, ob, k2.φ _ _ g1, g2, ?_, g4, g5.mono k2⟩
        show E.F p.b = none
        cases hb : E.F p.b with
        | none => rfl
        | some o => rw [hF _ o hb] at g3; simp at g3
    · intro i j x y p q hi hj hp hq hpq
      have side : ∀ i x p, (H'.over X).get i = some x → E''.φ i = some p → (X.get i = some x ∧ E.φ i = some p ∧ ∃ ob, E'.F p.b = some ob) ∨ (X.get i = none ∧ H'.get i = some x ∧ E'.φ i = some p ∧ E'.F p.b = none) := by
        intro i x p hi hp
        simp only [AHeap.over] at hi
        split at hi
        · rename_i y hy
          simp only [Option.some.injEq] at hi; subst hi
          obtain ⟨p', ob, g1, g2, g3, g4, g5⟩ := h.live i y (AHeap.over_right hy)
          have := k1.φ _ _ g1
          rw [hp] at this; cases this
          obtain ⟨ob', q1, q2⟩ := hFX i y p hy g1
          exact .inl ⟨hy, g1, ob', q2⟩
        · rename_i hxn
          obtain ⟨p', ob, g1, g2, g3, g4, g5⟩ := h'.live i x hi
          have := k2.φ _ _ g1
          rw [hp] at this; cases this
          exact .inr ⟨hxn, hi, g1, g3⟩
      rcases side i x p hi hp with ⟨a1, a2, ob, a3⟩ | ⟨a0, a1, a2, a3⟩ <;> rcases side j y q hj hq with ⟨b1, b2, ob', b3⟩ | ⟨b0, b1, b2, b3⟩
      · exact h.inj i j x y p q (AHeap.over_right a1) (AHeap.over_right b1) a2 b2 hpq
      · rw [hpq, b3] at a3; simp at a3
      · rw [← hpq, a3] at b3; simp at b3
      · exact h'.inj i j x y p q a1 b1 a2 b2 hpq
  · intro i p hp
    simp only [E''] at hp
    split at hp
    · rename_i q hq
      cases hp
      exact .inr hq
    · exact .inl (h'.dom i p hp)

end Go.Abs
