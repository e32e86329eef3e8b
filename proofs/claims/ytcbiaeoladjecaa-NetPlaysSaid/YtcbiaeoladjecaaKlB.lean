/-
  From a walk over abstract arguments to a law's statement.
-/
import Derived.Test.YtcbiaeoladjecaaKlA
namespace Go.Abs
open Go Go.RowKit Go.WideShapes Go.ChangeShapes

section
variable {H : Type} {enc : TypeId × Value → H} {P : Program}

theorem Olds.stays (hl : laidOutB P = true) {W W' : World} (hb : Olds W W') (sp : Nat → Bool) : ∀ {ts : List TypeId} {vs : List Value} {ds : List (DataW H)} {ps : List MemPlace}, (∀ t ∈ ts, P.readableRec t = true ∧ t < P.types.size) →
    DataW.TrodAll enc P W 0 (fun _ => true) true ts vs ds ps → (∀ x ∈ ps, x.block < W.heap.size ∧ sp x.block = true) → DataW.TrodAll enc P W' 0 sp true ts vs ds ps
  | [], [], [], ps, _, h, _ => h
  | t :: ts, v :: vs, d :: ds, ps, ht, h, hp => by
    obtain ⟨p, q, h1, h2, rfl⟩ := h
    obtain ⟨hr, hrow⟩ := ht t (by simp)
    refine ⟨p, q, ?_, Olds.stays hl hb sp (fun t ht' => ht t (by simp [ht'])) h2 (fun x hx => hp x (by simp [hx])), rfl⟩
    exact WideElems.Trod_stays hl hr hrow h1 (fun x hx => hb.same (hp x (by simp [hx])).1) (fun x hx => (hp x (by simp [hx])).2)
  | [], [], _ :: _, _, _, h, _ => h.elim
  | [], _ :: _, _, _, _, h, _ => by cases h
  | _ :: _, [], _, _, _, h, _ => by cases h
  | _ :: _, _ :: _, [], _, _, h, _ => by cases h

/-- An argument of plain data. -/
theorem open_arg {n : Nat} {t : TypeId} {v : Value} {d : DataW H} {ps : List MemPlace} {W : World} {base : Nat} (ht : plainTy P n t = true) (hs : (match P.underlying t with | some (.struct _) => false | _ => true) = true)
    (hv : Value.okWide P W .any base t v) (h : DataW.Trod enc P W 0 (fun _ => true) true t v d ps) : ∃ a, VRel (Env.start W) a v ∧ Shp P n t [a] := by
  obtain ⟨fuel, h⟩ := h
  obtain ⟨as, h1, h2⟩ := open_plain ht h
  have hc : v.cells = #[v] := by
    unfold Value.okWide at hv
    have h0 := ht
    cases n with
    | zero => simp [plainTy] at ht
    | succ n =>
      unfold plainTy at ht
      split at ht <;> rename_i hu <;> first
        | (rw [hu] at hs; simp at hs; done)
        | (simp at ht; done)
        | (rw [hu] at hv
           simp only [Cell.okWide, hu] at hv
           cases v <;> first | rfl | (simp [Cell.ok, hu] at hv; done))
  rw [hc] at h1
  cases h1 with | cons h t => cases t; exact ⟨_, h, h2⟩
end
end Go.Abs
