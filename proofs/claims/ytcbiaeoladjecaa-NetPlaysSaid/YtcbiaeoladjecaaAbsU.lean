/-
  A simplified meaning for Go code, twenty-first part: from the judgement on a function to the given statements.
-/
import Derived.Test.YtcbiaeoladjecaaAbsT
import Derived.Below
import Derived.ChangeSame
import Derived.WideKeyArgs
namespace Go.Abs
open Go Go.RowKit Go.WideShapes Go.ChangeShapes

/-- What was there when the call began is as it was. -/
structure Olds (W W' : World) : Prop where
  os : W'.os = W.os
  output : W'.output = W.output
  block : ∀ k, k < W.heap.size → W'.heap[k]? = W.heap[k]?

theorem Olds.frame {W w' : World} (h : Olds W w') (may : MemPlace → Prop) : W.keptBut w' may := by
  refine ⟨h.os, h.output, fun i hi => ?_⟩
  rw [h.block i hi]
  split <;> simp_all

theorem Olds.same {W w' : World} (h : Olds W w') {p : MemPlace} (hp : p.block < W.heap.size) : W.sameAt w' p := by
  cases p with
  | cell b o => exact World.cell?_of_block (w := W) (h.block b hp)
  | map b => exact h.block b hp

theorem Olds.trod {H : Type} {enc : TypeId × Value → H} {P : Program} {t : TypeId} (hl : laidOutB P = true) (hr : P.readableRec t = true) (hrow : t < P.types.size) {W W' : World} {v : Value} {d : DataW H} {ps : List MemPlace}
    (h : DataW.Trod enc P W 0 (fun _ => true) true t v d ps) (hb : Olds W W') (hlt : ∀ x ∈ ps, x.block < W.heap.size) :
    DataW.Trod enc P W' 0 (fun b => decide (b < W.heap.size)) true t v d ps :=
  WideElems.Trod_stays hl hr hrow h (fun x hx => hb.same (hlt x hx)) (fun x hx => by simpa using hlt x hx)

section
variable {H : Type} {enc : TypeId × Value → H} {P : Program}
theorem post_of_olds {f : Func} {s : ChangeSpec} {apart fresh handsOn again : Bool} {W W' : World} {args : Array Value} {v : Value} {ds gs : List (DataW H)} {before pa pv : List MemPlace}
    (hW : DataW.Whole enc P f.params.toList s.vars apart W args.toList ds gs before)
    (hres : ∀ (b : Nat) (sp : Nat → Bool) (hd : Bool), DataW.TrodAll enc P W' b sp hd f.resultTypes.toList (v.resultList f.resultTypes.size) (s.fn H (ds ++ gs)).results [])
    (hargs : ∀ sp : Nat → Bool, (∀ p ∈ before, sp p.block = true) → DataW.TrodAll enc P W' 0 sp true f.params.toList args.toList (s.fn H (ds ++ gs)).args pa)
    (hvars : ∀ sp : Nat → Bool, (∀ p ∈ before, sp p.block = true) → DataW.TrodVars enc P W' sp s.vars (s.fn H (ds ++ gs)).vars pv)
    (hps : before = pa ++ pv) (hb : Olds W W')
    (hok : ∀ (j : Nat) (t : TypeId) (r : Value), f.resultTypes[j]? = some t → (v.resultList f.resultTypes.size)[j]? = some r → Value.okWide P W' .any 0 t r) :
    s.post enc P f apart fresh handsOn again W args v W' := by
  have hlt : ∀ p ∈ before, p.block < W.heap.size := fun p hp => hW.lt p hp
  have hold : ∀ p ∈ before, (fun b => decide (b < W.heap.size)) p.block = true := fun p hp => by simpa using hlt p hp
  refine ⟨ds, gs, before, [], pa, pv, hW, hres _ _ _, hargs _ hold, hvars _ hold, World.keptBut_mono (fun p hp => ⟨hp, ?_⟩) (hb.frame (· ∈ before)), fun _ => ?_⟩
  · rw [hps, List.mem_append] at hp
    exact Or.inr hp
  · obtain ⟨_, _, _, _, _, hz, hn⟩ := hW
    refine ⟨hok, _, _, ([] ++ pa) ++ pv, ⟨[] ++ pa, pv, trodAll_append (hargs _ (fun _ _ => rfl)) (hres _ _ _), hvars _ (fun _ _ => rfl), rfl, ?_, ?_⟩, ?_⟩
    · intro b off hp
      have hin : MemPlace.cell b off ∈ before := by rw [hps]; simpa using hp
      have : W'.frozen? { block := b, off := off } = W.frozen? { block := b, off := off } := World.frozen?_of_block (w := W) (h := hb.block b (hlt _ hin))
      rw [this]
      exact hz b off hin
    · intro ha
      have := hn ha
      rw [hps] at this
      simpa using this
    · intro p hp _
      rw [hps]
      simpa using hp
end

/-- The environment at a call's beginning: all that is there is frozen. -/
def Env.start (w : World) : Env := { φ := fun _ => none, K := fun B => w.heap[B]?, F := fun _ => none, os := w.os, out := w.output }

theorem Rel.start (w : World) (n : Nat) : Rel (Env.start w) (AHeap.empty n) w :=
  ⟨rfl, rfl, fun _ _ h => h, fun _ _ h => by simp [Env.start] at h, fun _ => .inr rfl, fun _ _ h => by simp [Env.start] at h, fun _ _ h => by simp [AHeap.empty] at h, fun _ _ _ _ _ _ h => by simp [AHeap.empty] at h⟩

theorem olds_of {w w' : World} {E' : Env} {H' : AHeap} (hx : Ext (Env.start w) E') (h : Rel E' H' w') : Olds w w' := by
  refine ⟨h.os.trans hx.os, h.out.trans hx.out, fun k hk => ?_⟩
  have h1 : (Env.start w).K k = some w.heap[k] := Array.getElem?_eq_getElem hk
  rw [h.K _ _ (hx.K _ _ h1)]
  exact h1.symm

/-- A function that answers true over whatever frozen arguments. -/
theorem Does.yes {P : Program} {G : Nat → Option AV} {f : FuncId} {args : List AV} {n : Nat} {R : AV → AHeap → Prop} (he : Enters P f) (h : Does P G f args (AHeap.empty n) R) (hR : ∀ r H, R r H → r = .bool true) (w : World) (hG : GRel (Env.start w) G) {vs : List Value} (hv : VRels (Env.start w) args vs) :
    Calls P f vs.toArray w fun e w' => e = .returned (.bool true) ∧ Olds w w' := by
  have hc : Calls P f vs.toArray w fun e w' => ∃ v, e = .returned v ∧ Ends (Env.start w) R v w' := by
    rcases h.run _ w vs (Rel.start w n) hG hv with ⟨_, h2⟩ | ⟨v, w', h1, _⟩
    · exact h2
    · rw [he] at h1; cases h1
  refine hc.mono ?_
  rintro e w' ⟨v, rfl, r, H', E', g1, g2, g3, g4⟩
  have := hR _ _ g1
  subst this
  cases g3
  exact ⟨rfl, olds_of g2 g4⟩

theorem gnone (E : Env) : GRel E fun _ => none := fun _ _ h => by simp at h

theorem abs_empty : CH.empty.abs = AHeap.empty 0 := by
  refine AHeap.ext' rfl fun i => ?_
  show CH.get CH.empty i = none
  unfold CH.get CH.empty
  split
  · exact Trie.getF_leaf _ _
  · rfl

/-- A closed call that evaluates to true. -/
theorem closed_true {P : Program} {f : FuncId} {fuel n : Nat} (he : Enters P f) (hm : P.follows .mixedOrders = true) (hp : plainFn P = true) (h : (ccall (fun _ _ _ => none) P (fun _ => none) fuel n f [] CH.empty).map Prod.fst = some (.bool true)) (w : World) :
    Calls P f #[] w fun e w' => e = .returned (.bool true) ∧ Olds w w' := by
  simp only [Option.map_eq_some_iff] at h
  obtain ⟨⟨r, H'⟩, h1, rfl⟩ := h
  have hd := ccall_sound (fuel := fuel) hm hp (ov := fun _ _ _ => none) (fun _ _ _ _ _ h => by simp at h) n f [] CH.empty _ _ h1
  rw [abs_empty] at hd
  exact Does.yes he hd (fun r H h => h.1) w (gnone _) .nil

end Go.Abs
