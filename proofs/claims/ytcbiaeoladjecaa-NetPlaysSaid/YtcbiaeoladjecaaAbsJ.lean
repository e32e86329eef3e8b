/-
  A simplified meaning for Go code, tenth part: what writes: a store, append, copy, clear.
-/
import Derived.Test.YtcbiaeoladjecaaAbsI
namespace Go.Abs
open Go

inductive AEff where
  | same
  | put (i : Nat) (x : AObj)
  | new (x : AObj)
  | move (i : Nat) (x : AObj)
  deriving Inhabited

def AHeap.eff (H : AHeap) : AEff → AHeap
  | .same => H
  | .put i x => H.set i x
  | .new x => H.push x
  | .move i x => (H.kill i).push x

@[simp] theorem AHeap.get_push (H : AHeap) (x : AObj) (j : Nat) : (H.push x).get j = if j = H.next then some x else H.get j := rfl
@[simp] theorem AHeap.get_set (H : AHeap) (i : Nat) (x : AObj) (j : Nat) : (H.set i x).get j = if j = i then some x else H.get j := rfl
@[simp] theorem AHeap.get_kill (H : AHeap) (i j : Nat) : (H.kill i).get j = if j = i then none else H.get j := rfl
@[simp] theorem AHeap.next_push (H : AHeap) (x : AObj) : (H.push x).next = H.next + 1 := rfl
@[simp] theorem AHeap.next_set (H : AHeap) (i : Nat) (x : AObj) : (H.set i x).next = H.next := rfl
@[simp] theorem AHeap.next_kill (H : AHeap) (i : Nat) : (H.kill i).next = H.next := rfl

theorem raw_stores (P : Program) (B : Nat) (e : TypeId) (fz : Nat × Nat) (q : Nat) : ∀ (vs : List Value) (k : Nat) (c : Array Value) (w : World), w.heap[B]? = some (.cells c e fz) → q + k + vs.length ≤ c.size →
    (∀ o, q ≤ o → o < c.size → ¬ (fz.1 ≤ o ∧ o < fz.2)) → (∀ v ∈ vs, v.oneCell' = true) →
    ∃ w' c', (storeCells ⟨B, q, none⟩ vs k).run P w = .ok () w' ∧ w'.heap[B]? = some (.cells c' e fz) ∧ c'.toList = c.toList.take (q + k) ++ (vs ++ c.toList.drop (q + k + vs.length)) ∧
      (∀ C, C ≠ B → w'.heap[C]? = w.heap[C]?) ∧ w'.os = w.os ∧ w'.output = w.output := by
  intro vs
  induction vs with
  | nil => intro k c w hb _ _ _; exact ⟨w, c, by simp [storeCells], hb, by simp, fun _ _ => rfl, rfl, rfl⟩
  | cons v vs ih =>
    intro k c w hb hl hf ho
    simp only [List.length_cons] at hl
    have hrun : (store ⟨B, q + k, none⟩ v).run P w = .ok () (w.setCell ⟨B, q + k, none⟩ v) := by
      rw [run_store P w _ v _ (ho v (by simp)), cell?_of hb, Array.getElem?_eq_getElem (by omega)]
      have hfr : w.frozen? ⟨B, q + k, none⟩ = false := frozen?_of hb (hf (q + k) (by omega) (by omega))
      simp [hfr]
    obtain ⟨w', c', g1, g2, g3, g4, g5, g6⟩ := ih (k + 1) (c.setIfInBounds (q + k) v) (w.setCell ⟨B, q + k, none⟩ v) (heap_setCell _ _ _ _ hb) (by simp; omega) (by simpa using hf) (fun u hu => ho u (by simp [hu]))
    refine ⟨w', c', ?_, g2, ?_, fun C hC => (g4 C hC).trans (heap_setCell_ne _ _ _ _ _ hC), g5, g6⟩
    · simp only [storeCells, Sem.run_bind, Addr.add_mk, hrun, Result.andThen_ok, g1]
    · rw [g3, Array.toList_setIfInBounds]
      apply List.ext_getElem?
      intro j
      simp only [List.getElem?_append, List.length_take, List.length_set, Array.length_toList, List.length_cons]
      have h1 : min (q + (k + 1)) c.size = q + (k + 1) := by omega
      have h2 : min (q + k) c.size = q + k := by omega
      rw [h1, h2]
      by_cases a : j < q + k
      · rw [if_pos (by omega), if_pos a, List.getElem?_take_of_lt (by omega), List.getElem?_take_of_lt a, List.getElem?_set_ne (by omega)]
      · by_cases b : j = q + k
        · subst b
          have q1 : q + k < q + (k + 1) := by omega
          have q2 : ¬ q + k < q + k := by omega
          have q3 : q + k - (q + k) < vs.length + 1 := by omega
          have q4 : q + k < c.toList.length := by rw [Array.length_toList]; omega
          rw [if_pos q1, if_neg q2, if_pos q3, List.getElem?_take_of_lt q1, List.getElem?_set_self q4, Nat.sub_self]
          rfl
        · rw [if_neg (by omega), if_neg a]
          obtain ⟨m, rfl⟩ : ∃ m, j = q + k + 1 + m := ⟨j - (q + k + 1), by omega⟩
          rw [show q + k + 1 + m - (q + (k + 1)) = m by omega, show q + k + 1 + m - (q + k) = m + 1 by omega]
          by_cases d : m < vs.length
          · rw [if_pos d, if_pos (by omega)]; rfl
          · rw [if_neg d, if_neg (by omega), List.getElem?_drop, List.getElem?_drop, List.getElem?_set_ne (by omega)]
            congr 1; omega

theorem all_oneCell {E : Env} : ∀ {as : List AV} {vs : List Value}, VRels E as vs → as.all AV.scalar = true → ∀ v ∈ vs, v.oneCell' = true
  | [], _, h, _ => by cases h; simp
  | a :: as, _, h, hs => by
    cases h with | cons h1 h2 =>
    simp only [List.all_cons, Bool.and_eq_true] at hs
    intro v hv
    simp only [List.mem_cons] at hv
    rcases hv with rfl | hv
    · exact h1.oneCell hs.1
    · exact all_oneCell h2 hs.2 v hv

/-- A live block's place in the model is taken over by a new number, its contents another list. -/
theorem Rel.takeOver {E : Env} {H : AHeap} {w w' : World} (h : Rel E H w) {i : Nat} {cs : List AV} (hi : H.get i = some (.cells cs)) {p : Place} (hp : E.φ i = some p) {o : Nat} {as : List AV} {vs : List Value} {c : Array Value} {e : TypeId} {fz : Nat × Nat}
    (hb : w'.heap[p.b]? = some (.cells c e fz)) (hc : c.size = p.n) (hf : Unfr fz p.n) (hv : VRels E as vs) (hpre : vs <+: c.toList.drop (p.s + o))
    (hoth : ∀ C, C ≠ p.b → w'.heap[C]? = w.heap[C]?) (hos : w'.os = w.os) (hout : w'.output = w.output) :
    Rel (E.put H.next ⟨p.b, p.s + o, p.n⟩) ((H.kill i).push (.cells as)) w' := by
  have hx := Env.put_ext (E := E) (i := H.next) (p := ⟨p.b, p.s + o, p.n⟩) h.fresh
  obtain ⟨c0, e0, fz0, vs0, k1, k2, k3, k4, k5, hK, hF⟩ := h.cellsOf hi hp
  have hltn : ∀ j x, H.get j = some x → j < H.next := fun j x hj => h.lt hj
  refine ⟨hos.trans h.os, hout.trans h.out, fun B ob hB => ?_, fun B ob hB => ?_, h.KF, ?_, ?_, ?_⟩
  · rw [hoth B (fun q => by subst q; have := hK.symm.trans hB; simp at this)]; exact h.K B ob hB
  · rw [hoth B (fun q => by subst q; have := hF.symm.trans hB; simp at this)]; exact h.F B ob hB
  · intro j q hq
    simp only [Env.put] at hq
    simp only [AHeap.next_push, AHeap.next_kill]
    split at hq
    · omega
    · have := h.dom j q hq; omega
  · intro j x hj0
    have hj : (if j = H.next then some (AObj.cells as) else if j = i then none else H.get j) = some x := hj0
    clear hj0
    by_cases hjn : j = H.next
    · rw [if_pos hjn] at hj
      subst hjn
      cases hj
      exact ⟨⟨p.b, p.s + o, p.n⟩, _, by simp [Env.put], hK, hF, hb, c, e, fz, vs, rfl, hc, hv.mono hx.knows, hpre, hf⟩
    · rw [if_neg hjn] at hj
      by_cases hji : j = i
      · rw [if_pos hji] at hj; simp at hj
      · rw [if_neg hji] at hj
        obtain ⟨q, ob, g1, g2, g3, g4, g5⟩ := h.live j x hj
        refine ⟨q, ob, hx.φ _ _ g1, g2, g3, ?_, g5.mono hx.knows⟩
        rw [hoth q.b (fun r => hji (h.inj j i x _ q p hj hi g1 hp r))]; exact g4
  · intro a b x y q r ha hb' hq hr hqr
    have ha : (if a = H.next then some (AObj.cells as) else if a = i then none else H.get a) = some x := ha
    have hb' : (if b = H.next then some (AObj.cells as) else if b = i then none else H.get b) = some y := hb'
    simp only [Env.put] at hq hr
    by_cases han : a = H.next
    · by_cases hbn : b = H.next
      · omega
      · rw [if_neg hbn] at hb'
        by_cases hbi : b = i
        · rw [if_pos hbi] at hb'; simp at hb'
        · rw [if_neg hbi] at hb'
          rw [if_pos han] at hq; rw [if_neg hbn] at hr
          simp only [Option.some.injEq] at hq; subst hq
          exact absurd (h.inj b i y _ r p hb' hi hr hp hqr.symm) hbi
    · rw [if_neg han] at ha
      by_cases hai : a = i
      · rw [if_pos hai] at ha; simp at ha
      · rw [if_neg hai] at ha
        by_cases hbn : b = H.next
        · rw [if_neg han] at hq; rw [if_pos hbn] at hr
          simp only [Option.some.injEq] at hr; subst hr
          exact absurd (h.inj a i x _ q p ha hi hq hp hqr) hai
        · rw [if_neg hbn] at hb'
          by_cases hbi : b = i
          · rw [if_pos hbi] at hb'; simp at hb'
          · rw [if_neg hbi] at hb'
            rw [if_neg han] at hq; rw [if_neg hbn] at hr
            exact h.inj a b x y q r ha hb' hq hr hqr

/-- What an operation that writes does. -/
def OpRes (P : Program) (E : Env) (w : World) (s : Sem Next) (a : AV) (H' : AHeap) : Prop :=
  ∃ E' v w', Ext E E' ∧ VRel E' a v ∧ Rel E' H' w' ∧ (s.run P w = .ok (.value v) w' ∨ (s.run P w = .ok .skip w' ∧ v = undef))

def isSeq : TypeDesc → Bool
  | .slice _ | .string => true
  | _ => false

theorem run_append_grow' {P : Program} (w : World) {t u ty e : TypeId} {i : TypeInfo} {z : Value} {d : TypeDesc} (ht : P.underlying t = some (.slice e)) (hu : P.underlying u = some d) (hd : isSeq d = true) (hi : P.info? e = some i) (hz : i.zero = some z)
    (base : Option Addr) (sLen sCap : Nat) (x : Value) (n : Nat) (olds news : List Value)
    (hlo : ∀ w' : World, w'.heap = w.heap → (Builtin.firstCells i.size sLen (.slice base sLen sCap)).run P w' = .ok olds.toArray w')
    (hln : ∀ w' : World, w'.heap = w.heap → (Builtin.firstCells i.size n x).run P w' = .ok news.toArray w') (hlen : (Builtin.lenOf x).run P w = .ok n w)
    (hg : sCap < sLen + n) (h63 : ((sLen + n : Nat) : Int) ≤ 9223372036854775807) (hfit : Builtin.nextslicecap (sLen + n) sCap * i.bytes ≤ 281474976710656) :
    (Builtin.append_ #[t, u] ty #[.slice base sLen sCap, x]).run P w =
      .ok (.slice (some ⟨w.heap.size, 0, none⟩) (sLen + n) (grownCap w (sLen + n) sCap e))
        (w.drew.alloc (.cells (olds.toArray ++ news.toArray ++ Builtin.zeroCells z.cells (grownCap w (sLen + n) sCap e - (sLen + n))) e)) := by
  have hn : ¬ (sLen + n ≤ sCap) := by omega
  have h63' : ¬ (9223372036854775807 < ((sLen : Int) + (n : Int))) := by omega
  have h48' : ¬ (281474976710656 < Builtin.nextslicecap (sLen + n) sCap * i.bytes) := by omega
  have hf := hln w.drew rfl
  have hfo := hlo w.drew rfl
  cases d <;> simp only [isSeq, Bool.false_eq_true] at hd <;>
    simp [Builtin.append_, run_underlying ht, run_underlying hu, sizeOf, typeInfo, zeroValue, hi, hz, hlen, hn, h63', h48', Question.forced, hf, hfo, newRow, grownCap] <;>
    (congr 2; apply Array.ext'; simp [List.append_assoc])

theorem run_append_stay {P : Program} (w w' : World) {t u ty e : TypeId} {i : TypeInfo} {d : TypeDesc} (ht : P.underlying t = some (.slice e)) (hu : P.underlying u = some d) (hd : isSeq d = true) (hi : P.info? e = some i)
    (a : Addr) (sLen sCap : Nat) (x : Value) (n : Nat) (news : List Value)
    (hln : (Builtin.firstCells i.size n x).run P w = .ok news.toArray w) (hlen : (Builtin.lenOf x).run P w = .ok n w)
    (hg : sLen + n ≤ sCap) (hst : (storeCells (a.add (sLen * i.size)) news).run P w = .ok () w') :
    (Builtin.append_ #[t, u] ty #[.slice (some a) sLen sCap, x]).run P w = .ok (.slice (some a) (sLen + n) sCap) w' := by
  cases d <;> simp only [isSeq, Bool.false_eq_true] at hd <;>
    simp [Builtin.append_, run_underlying ht, run_underlying hu, sizeOf, typeInfo, hi, hlen, hg, hln, hst]

theorem run_append_none {P : Program} (w : World) {t u ty e : TypeId} {i : TypeInfo} {d : TypeDesc} (ht : P.underlying t = some (.slice e)) (hu : P.underlying u = some d) (hd : isSeq d = true) (hi : P.info? e = some i)
    (x : Value) (news : List Value) (hln : (Builtin.firstCells i.size 0 x).run P w = .ok news.toArray w) (hlen : (Builtin.lenOf x).run P w = .ok 0 w) :
    (Builtin.append_ #[t, u] ty #[.slice none 0 0, x]).run P w = .ok (.slice none 0 0) w := by
  cases d <;> simp only [isSeq, Bool.false_eq_true] at hd <;>
    simp [Builtin.append_, run_underlying ht, run_underlying hu, sizeOf, typeInfo, hi, hlen, hln]

end Go.Abs
