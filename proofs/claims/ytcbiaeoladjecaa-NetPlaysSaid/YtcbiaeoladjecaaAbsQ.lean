/-
  A simplified meaning for Go code, seventeenth part: a region that draws its order: the theorem.
-/
import Derived.Test.YtcbiaeoladjecaaAbsP
namespace Go.Abs
open Go

theorem aat_mono {g g' : Nat → Option AObj} (h : ∀ i x, g i = some x → g' i = some x) {x : AV} {cs : List AV} (e : aat g x = some cs) : aat g' x = some cs := by
  unfold aat at e ⊢
  split at e
  · split at e
    · rename_i cs0 hi
      rw [h _ _ hi]; exact e
    · simp at e
  · exact e
  · simp at e

theorem afirst_mono {g g' : Nat → Option AObj} (h : ∀ i x, g i = some x → g' i = some x) {z n : Nat} {x : AV} {cs : List AV} (e : afirst g z n x = some cs) : afirst g' z n x = some cs := by
  unfold afirst at e ⊢
  split at e
  · exact e
  · split at e
    · rename_i cs0 hi
      rw [h _ _ hi]; exact e
    · simp at e
  · exact e
  · exact e
  · simp at e

theorem aread_mono {P : Program} {ρ : Operand → Option AV} {g g' : Nat → Option AObj} (h : ∀ i x, g i = some x → g' i = some x) {o : Oper} {v : AV} (e : aread P ρ g o = some v) : aread P ρ g' o = some v := by
  unfold aread at e ⊢
  split at e
  · split at e
    · split at e
      · rename_i cs hcs
        rw [aat_mono h hcs]; exact e
      · simp at e
    · simp at e
  · split at e
    · split at e
      · split at e
        · exact e
        · split at e
          · rename_i cs hcs
            simp only [afirst_mono h hcs]; exact e
          · simp at e
        · split at e
          · rename_i cs hcs
            simp only [afirst_mono h hcs]; exact e
          · simp at e
        · simp at e
      · simp at e
    · simp at e
  · simp at e

section
variable {P : Program} {G : Nat → Option AV} {N : Nat} {ops : Array Oper}

/-- An operation that writes, or a call, run in the model: whatever it leaves serves. -/
theorem eff_run {o : Oper} {T : Nat → AV} {H H' : AHeap} {v : AV} {E : Env} {w : World} {a : Act} (h : (∃ e, aeff P (aval G T) H.get H.next o = some (v, e) ∧ H' = H.eff e) ∨ ∃ f args, acallee (aval G T) o = some (f, args) ∧ Does P G f args H fun r h => r = v ∧ h = H')
    (hR : Rel E H w) (hG : GRel E G) (hops : Operands E (aval G T) a.eval o.op.operands.toList) {K : Act → World → Prop} {Q : Exit → Act → World → Prop} (hK : ∀ E' u w', Ext E E' → VRel E' v u → Rel E' H' w' → K (a.put o.dst u) w') : o.wp P a w K Q := by
  rcases h with ⟨e, h1, rfl⟩ | ⟨f, args, hc, hd⟩
  · obtain ⟨E', u, w', g1, g2, g3, g4⟩ := aeff_sound hR hops h1
    exact wp_of_run g4 (hK E' u w' g1 g2 g3)
  · obtain ⟨dst, op, ty, pos, after, guard⟩ := o
    unfold acallee at hc
    cases op <;> simp only at hc <;> try (simp at hc; done)
    rename_i c
    obtain ⟨callee, cargs, argTypes⟩ := c
    cases callee <;> simp only at hc <;> try (simp at hc; done)
    rename_i fo
    split at hc <;> try (simp at hc; done)
    rename_i k first captured as hf has
    simp only [Option.some.injEq, Prod.mk.injEq] at hc
    obtain ⟨rfl, rfl⟩ := hc
    have hops' : Operands E (aval G T) a.eval (fo :: cargs.toList) := fun x hx b hb => hops x (by simpa [Op.operands, Call.operands] using hx) b hb
    have hfv := hops' fo (by simp) _ hf
    have hargs := avals_sound (E := E) (σ := a.eval) (fun x hx => hops' x (by simp [hx])) has
    generalize hfe : a.eval fo = fv at hfv
    cases hfv with | func hf1 hc1 =>
    rename_i f2 c2
    have hrun : (execOp a.eval { dst, op := .call { callee := .value fo, args := cargs, argTypes }, type := ty, pos, after, guard }).run P w = (callFunc k (f2 ++ cargs.map a.eval ++ c2)).run P w := by
      simp [execOp, resolve, hfe, Deferred.ofValue, invoke]
    have hall : VRels E (first ++ as ++ captured) (f2 ++ cargs.map a.eval ++ c2).toList := by
      simp only [Array.toList_append, Array.toList_map]
      exact (hf1.append hargs).append hc1
    have hcl := hd.run E w _ hR hG hall
    simp only [Array.toArray_toList] at hcl
    unfold Oper.wp
    rw [hrun]
    rcases hcl with ⟨h1, h2⟩ | ⟨u, w', h1, r, H'', E', ⟨rfl, rfl⟩, g2, g3, g4⟩
    · rw [h1]
      refine h2.mono ?_
      rintro e w' ⟨u, rfl, r, H'', E', ⟨rfl, rfl⟩, g2, g3, g4⟩
      exact hK E' u w' g2 g3 g4
    · rw [h1]
      exact hK E' u w' g2 g3 g4

variable {R : Run P G N ops} {E0 : Env} {l : Nat → Bool} {a : Act} {w : World} {i : Nat} {o : Oper}

/-- An operation that writes, or a call, done. -/
theorem Inv.eff (h : Inv R E0 l a w) (hG : GRel E0 G) (hreal : ∀ i, i ≤ ops.size → ∃ (E' : Env) (w' : World) (a' : Act), Ext E0 E' ∧ Rel E' (R.H i) w' ∧ TRel E' N (R.T i) a'.tmps) (hdom0 : ∀ j p, E0.φ j = some p → j < (R.H 0).next)
    (ho : ops[i]? = some o) (hli : l i = false) (hf : Free ops l i) (hk : (R.k i).isEff = true) {K : Act → World → Prop} {Q : Exit → Act → World → Prop} (hK : ∀ u w', Inv R E0 (add l i) (a.put o.dst u) w' → K (a.put o.dst u) w') : o.wp P a w K Q := by
  have hlate := h.late ho hli
  have hslot : ∀ x ∈ o.op.operands.toList, aval G (R.TS l ops.size) x = aval G (R.T i) x := fun x hx => h.operand ho hli hf hx
  have hstep := R.step i o ho
  have hi := get_lt ho
  obtain ⟨hc, hdf, E, q, g1, g2, g3, g4, g5, g6, g7, g8⟩ := h
  have hqi : q ≤ i := by
    rcases Nat.lt_or_ge i q with h1 | h1
    · have := g5 i h1 (.inl hk); rw [hli] at this; simp at this
    · exact h1
  have hahead : ∀ j, j < i → ((R.k j).isEff = true ∨ (R.k j).isAlloc = true) → l j = true := fun j h1 h2 => hf.reach hc (R.effs j i h1 hi hk h2)
  have hnoeff : ∀ j, q ≤ j → j < i → (R.k j).isEff = false := fun j h1 h2 => by
    cases hkj : (R.k j).isEff with
    | false => rfl
    | true =>
      have e1 := hahead j h2 (.inl hkj)
      have e2 := g4 j h1 (by omega) hkj
      rw [e1] at e2; simp at e2
  have hHS : R.HS l q = (R.H i).over (R.X l i) := R.HS_eq i hqi (by omega) hnoeff (fun j _ h2 h3 => hahead j h2 (.inr h3))
  rw [hHS] at g6
  obtain ⟨Er, wr, ar, r1, r2, r3⟩ := hreal i (by omega)
  have hX : ∀ j x, (R.X l i).get j = some x → (R.H i).next ≤ j := fun j x hj => by
    obtain ⟨b, cs, b1, b2, b3, b4, b5, b6⟩ := R.ex_some hj
    have := R.mono_le (i := i) b b4 (by omega); omega
  have hside := g6.aside hX (fun j x hj => r2.lt hj) (fun j x hj => r2.contents hj)
  have hopsE : Operands (E.aside (R.X l i) w (R.H i).next) (aval G (R.T i)) a.eval o.op.operands.toList := by
    intro x hx b hb
    have hb' := hb
    rw [← hslot x hx] at hb'
    have hv := g8.operands (hG.mono g1.knows) o.op.operands.toList x hx b hb'
    -- what it holds is old
    have hold := r3.operands (hG.mono r1.knows) o.op.operands.toList x hx b hb
    have hlt := VRel.idLt r2.dom hold
    exact VRel.mono (E := E.cut (R.H i).next) (E' := E.aside (R.X l i) w (R.H i).next) ⟨fun _ _ h => h, fun _ _ h => h⟩ (hv.cut hlt)
  have hG' : GRel (E.aside (R.X l i) w (R.H i).next) G := by
    refine hG.mono ⟨fun j p hj => ?_, fun B ob hB => g1.K B ob hB⟩
    have h1 := hdom0 j p hj
    have h2 := R.mono_le (i := 0) i (Nat.zero_le _) (by omega)
    simp only [Env.aside]
    rw [if_pos (by omega)]
    exact g1.φ j p hj
  generalize hki : R.k i = k at hstep hk
  cases k with
  | idle => simp [Kind.isEff] at hk
  | read => simp [Kind.isEff] at hk
  | alloc cs => simp [Kind.isEff] at hk
  | eff =>
  obtain ⟨_, hstep⟩ := hstep
  refine eff_run hstep hside hG' hopsE (fun E' u w' x1 x2 x3 => hK u w' ?_)
  have hn' : (R.H (i + 1)).next ≤ (R.X l i).next := R.mono_le (i := i + 1) ops.size (by omega) (Nat.le_refl _)
  have hqn := R.mono_le (i := q) i hqi (by omega)
  have hmono := R.mono i hi
  have early : ∀ j x, R.ex l q ops.size j = some x → j < (R.H i).next ∨ ((R.H (i + 1)).next ≤ j ∧ R.ex (add l i) (i + 1) ops.size j = some x) := fun j x hj => by
    obtain ⟨b, cs, b1, b2, b3, b4, b5, b6⟩ := R.ex_some hj
    rcases Nat.lt_trichotomy b i with h2 | h2 | h2
    · have := R.alloc_lt (a := b) (b := i) h2 (by omega) b2; exact .inl (by omega)
    · subst h2; rw [hki] at b2; cases b2
    · have h3 := R.mono_le (i := i + 1) b (by omega) (by omega)
      refine .inr ⟨by omega, ?_⟩
      rw [b5, R.ex_of (l := add l i) (q := i + 1) (Nat.le_refl _) b1 b2 (by simp only [add]; split <;> first | rfl | exact b3) (by omega), b6]
  have hdom : ∀ j p, E.φ j = some p → j < (R.H i).next ∨ (R.H (i + 1)).next ≤ j := fun j p hj => by
    rcases g7 j p hj with h1 | ⟨x, h1⟩
    · exact .inl (by omega)
    · rcases early j x h1 with h2 | ⟨h2, _⟩
      · exact .inl h2
      · exact .inr h2
  obtain ⟨E2, y1, y2, y3, y4⟩ := g6.back hn' hdom x1 x3
  have hnew : (R.H (i + 1)).over (R.X l i) = R.HS (add l i) (i + 1) := by
    unfold Run.HS Run.X
    refine AHeap.ext' rfl fun j => ?_
    simp only [AHeap.over]
    rw [R.ex_congr (l := l) (l' := add l i) (q := i) (q' := i + 1) ops.size (fun b cs _ hkb => by
      have hne : b ≠ i := fun e => by subst e; rw [hki] at hkb; cases hkb
      simp only [add]
      rw [if_neg hne]
      constructor
      · rintro ⟨z1, z2⟩; exact ⟨z1, by omega⟩
      · rintro ⟨z1, z2⟩; exact ⟨z1, by omega⟩)]
  rw [hnew] at y3
  refine ⟨hf.closed_add hc, by rw [put_defers]; exact hdf, E2, i + 1, g1.trans y1, hi, .inr ⟨i, rfl, by rw [hki]; rfl, by simp [add]⟩, ?_, ?_, y3, ?_, ?_⟩
  · intro e h1 h2 h3
    simp only [add]
    rw [if_neg (by omega)]
    exact g4 e (by omega) h2 h3
  · intro j h1 h2
    simp only [add]
    split
    · rfl
    · exact hahead j (by omega) h2
  · intro j p hp
    rcases y4 j p hp with h1 | h1
    · exact .inl h1
    · rcases g7 j p h1 with h2 | ⟨x, h2⟩
      · exact .inl (by omega)
      · rcases early j x h2 with h3 | ⟨_, h3⟩
        · exact .inl (by omega)
        · exact .inr ⟨x, h3⟩
  · exact ((g8.mono y1.knows).put o.dst (x2.mono y2) (R.dst i o ho)).congr (R.TS_add ho hli hlate)

/-- Any operation that may come up, done. -/
theorem Inv.next (h : Inv R E0 l a w) (hG : GRel E0 G) (hreal : ∀ i, i ≤ ops.size → ∃ (E' : Env) (w' : World) (a' : Act), Ext E0 E' ∧ Rel E' (R.H i) w' ∧ TRel E' N (R.T i) a'.tmps) (hdom0 : ∀ j p, E0.φ j = some p → j < (R.H 0).next)
    (ho : ops[i]? = some o) (hli : l i = false) (hf : Free ops l i) {K : Act → World → Prop} {Q : Exit → Act → World → Prop} (hK : ∀ u w', Inv R E0 (add l i) (a.put o.dst u) w' → K (a.put o.dst u) w') : wpOp P ops Q i K a w := by
  have hwant := h.wanted ho hli hf
  have hslot : ∀ x ∈ o.op.operands.toList, aval G (R.TS l ops.size) x = aval G (R.T i) x := fun x hx => h.operand ho hli hf hx
  have hstep := R.step i o ho
  have hi := get_lt ho
  obtain ⟨Eh, qh, k1, _, _, _, _, _, _, k8⟩ := h.ex
  have hw0 : Region.wanted o (yielded ops a.tmps) = awanted ops (R.T i) o := by rw [awanted_eq k8, hwant]
  have hopsOf : ∀ E, Ext E0 E → TRel E N (R.TS l ops.size) a.tmps → Operands E (aval G (R.T i)) a.eval o.op.operands.toList := fun E x1 x2 x hx b hb => by
    rw [← hslot x hx] at hb
    exact x2.operands (hG.mono x1.knows) o.op.operands.toList x hx b hb
  unfold wpOp
  rw [ho]
  simp only
  generalize hki : R.k i = k at hstep
  cases k with
  | idle =>
    obtain ⟨h1, h2⟩ := hstep
    rcases h1 with ⟨hn, hv⟩ | ⟨hn, hv⟩
    · rw [hw0, hn]
      exact hK _ _ (h.idle ho hli hf (by rw [hki]; rfl) (by rw [hki]; rfl) (fun E _ _ _ _ _ _ _ => by rw [hv]; exact undef_rel E))
    · rw [hw0, hn, if_pos rfl]
      obtain ⟨u, g1, g2⟩ := apure_sound (P := P) (hopsOf Eh k1 k8) hv
      refine .inl (wp_of_run (.inl (g2 w)) (hK _ _ (h.idle ho hli hf (by rw [hki]; rfl) (by rw [hki]; rfl) (fun E _ x1 _ _ _ _ x2 => ?_))))
      obtain ⟨u', g1', g2'⟩ := apure_sound (P := P) (hopsOf E x1 x2) hv
      have := (g2 w).symm.trans (g2' w)
      simp only [Result.ok.injEq, Next.value.injEq, and_true] at this
      rw [this]; exact g1'
  | read =>
    obtain ⟨hn, hv, _⟩ := hstep
    rw [hw0, hn, if_pos rfl]
    have hread : ∀ E q, Ext E0 E → Rel E (R.HS l q) w → q ≤ ops.size → (q = 0 ∨ ∃ e, q = e + 1 ∧ (R.k e).isEff = true ∧ l e = true) → (∀ e, q ≤ e → e < ops.size → (R.k e).isEff = true → l e = false) → TRel E N (R.TS l ops.size) a.tmps → Reads P E a.eval o (R.v i) w := by
      intro E q x1 x2 x3 x4 x5 x6
      have hrd := R.reads i o ho hki q x3 (by rcases x4 with x4 | ⟨e, e1, e2, _⟩; exact .inl x4; exact .inr ⟨e, e1, e2⟩)
        (fun e h1 h2 hr => by
          rcases x4 with x4 | ⟨e', e1, e2, e3⟩
          · omega
          · -- e or e' is done, so i is
            have hle : l e = true := by
              by_cases ee : e = e'
              · subst ee; exact e3
              · exact h.closed.reach (R.effs e e' (by omega) (by omega) e2 (.inl h2)) e3
            rw [h.closed.reach hr hle] at hli; simp at hli)
        (fun e h1 h2 h3 hr => by
          have := hf.reach h.closed hr
          rw [x5 e h1 h2 h3] at this; simp at this)
      -- the same over the heap with what has been laid ahead of its turn
      obtain ⟨Er, wr, ar, r1, r2, r3⟩ := hreal q x3
      have hget : ∀ j x, (R.H q).get j = some x → (R.HS l q).get j = some x := fun j x hj => by
        refine AHeap.over_left (fun j' x' hj' => ?_) (r2.lt hj) hj
        obtain ⟨b, cs, b1, b2, b3, b4, b5, b6⟩ := R.ex_some hj'
        have := R.mono_le (i := q) b b4 (by omega); omega
      exact aread_sound x2 (hopsOf E x1 x6) (aread_mono hget hrd)
    have hex : ∃ E, Reads P E a.eval o (R.v i) w := by
      obtain ⟨E, q, y1, y2, y3, y4, y5, y6, y7, y8⟩ := h.ex
      exact ⟨E, hread E q y1 y6 y2 y3 y4 y8⟩
    obtain ⟨Ex, u, g1, g2⟩ := hex
    clear g1
    refine .inl (wp_of_run (.inl g2) (hK _ _ (h.idle ho hli hf (by rw [hki]; rfl) (by rw [hki]; rfl) (fun E q x1 x2 x3 x4 x5 x6 => ?_))))
    obtain ⟨u', g1', g2'⟩ := hread E q x1 x2 x3 x4 x5 x6
    have := g2.symm.trans g2'
    simp only [Result.ok.injEq, Next.value.injEq, and_true] at this
    rw [this]; exact g1'
  | alloc cs =>
    obtain ⟨hn, f, hal, hv, _⟩ := hstep
    rw [hw0, hn, if_pos rfl]
    obtain ⟨vs, g1, g2⟩ := aalloc_sound (P := P) (hopsOf Eh k1 k8) hal
    obtain ⟨c, e, fz, u, w', q1, q2, q3, q4, q5, q6, q7⟩ := g2 w
    refine .inl (wp_of_run (.inl q1) (hK _ _ (h.alloc ho hli hf hki q2 q3 q4 (fun E _ x1 _ x2 => ?_) q6 (fun E' hE' => by rw [hv]; exact q7 E' _ hE'))))
    obtain ⟨vs', g1', g2'⟩ := aalloc_sound (P := P) (hopsOf E x1 x2) hal
    obtain ⟨c', e', fz', u', w'', q1', q2', q3', q4', q5', q6', q7'⟩ := g2' w
    have hww := q1.symm.trans q1'
    simp only [Result.ok.injEq, Next.value.injEq] at hww
    obtain ⟨_, rfl⟩ := hww
    rw [q2] at q2'
    have : (Obj.cells c e fz) = .cells c' e' fz' := by
      have := congrArg (fun h : Array Obj => h[w.heap.size]?) q2'
      simpa using this
    cases this
    exact ⟨vs', g1', q5'⟩
  | eff =>
    rw [hw0, hstep.1, if_pos rfl]
    exact .inl (h.eff hG hreal hdom0 ho hli hf (by rw [hki]; rfl) hK)

theorem ready_iff {listed : Array Bool} (hs : listed.size = ops.size) {i : Nat} : i ∈ Region.ready .any ops listed ↔ i < ops.size ∧ listed.getD i false = false ∧ Free ops (fun j => listed.getD j false) i := by
  unfold Region.ready Free
  rw [List.mem_filter, List.mem_range]
  constructor
  · rintro ⟨h1, h2⟩
    obtain ⟨o, ho⟩ := get_of (ops := ops) h1
    have hl : i < listed.size := by omega
    simp [ho, hl] at h2
    obtain ⟨h3, h4⟩ := h2
    refine ⟨h1, by simp [hl, h3], fun q hq e he hb => ?_⟩
    rw [ho] at hq; cases hq
    obtain ⟨j, hj, rfl⟩ := Array.getElem_of_mem he
    rcases h4 j hj with h5 | h5
    · rw [hb] at h5; simp at h5
    · simpa using h5
  · rintro ⟨h1, h2, h3⟩
    obtain ⟨o, ho⟩ := get_of (ops := ops) h1
    have hl : i < listed.size := by omega
    refine ⟨h1, ?_⟩
    simp [hl] at h2
    simp [ho, hl, h2]
    intro j hj
    cases hb : Region.binds .any o.after[j] with
    | false => exact .inl rfl
    | true => right; simpa using h3 o ho _ (Array.getElem_mem hj) hb

/-- How many below n are not done. -/
def undone (f : Nat → Bool) : Nat → Nat
  | 0 => 0
  | n + 1 => undone f n + (if f n then 0 else 1)

theorem undone_pos {f : Nat → Bool} {i : Nat} (hf : f i = false) : ∀ {n : Nat}, i < n → 0 < undone f n
  | n + 1, h => by
    simp only [undone]
    by_cases e : i = n
    · subst e; simp [hf]
    · have := undone_pos hf (n := n) (by omega); omega

theorem undone_add {f : Nat → Bool} {i : Nat} (hf : f i = false) : ∀ n, (n ≤ i → undone (add f i) n = undone f n) ∧ (i < n → undone (add f i) n + 1 = undone f n)
  | 0 => ⟨fun _ => rfl, fun h => by omega⟩
  | n + 1 => by
    obtain ⟨h1, h2⟩ := undone_add hf n
    refine ⟨fun h => ?_, fun h => ?_⟩
    · simp only [undone, h1 (by omega)]
      have : add f i n = f n := by simp only [add]; rw [if_neg (by omega)]
      rw [this]
    · simp only [undone]
      by_cases e : n = i
      · subst e
        rw [h1 (Nat.le_refl _)]
        simp [add, hf]
      · have : add f i n = f n := by simp only [add]; rw [if_neg e]
        rw [this]
        have := h2 (by omega)
        omega

theorem wpAny_of (R : Run P G N ops) {E0 : Env} (hG : GRel E0 G) (hreal : ∀ i, i ≤ ops.size → ∃ (E' : Env) (w' : World) (a' : Act), Ext E0 E' ∧ Rel E' (R.H i) w' ∧ TRel E' N (R.T i) a'.tmps) (hdom0 : ∀ j p, E0.φ j = some p → j < (R.H 0).next)
    {Q : Exit → (Nat → AV) → AHeap → Prop} (hQ : Q .normal (R.T ops.size) (R.H ops.size)) :
    ∀ (fuel : Nat) (listed : Array Bool) (a : Act) (w : World), listed.size = ops.size → undone (fun j => listed.getD j false) ops.size = fuel → Inv R E0 (fun j => listed.getD j false) a w → wpAny P .any ops (lift Q E0 N) fuel listed a w := by
  have full : ∀ (listed : Array Bool) (a : Act) (w : World), listed.size = ops.size → Region.ready .any ops listed = [] → Inv R E0 (fun j => listed.getD j false) a w → lift Q E0 N .normal a w := by
    intro listed a w hs hready h
    -- all is done
    have all : ∀ i, i < ops.size → listed.getD i false = true := by
      intro i
      induction i using Nat.strongRecOn with
      | _ i ih =>
        intro hi
        cases hl : listed.getD i false with
        | true => rfl
        | false =>
          obtain ⟨o, ho⟩ := get_of (ops := ops) hi
          have : i ∈ Region.ready .any ops listed := (ready_iff hs).2 ⟨hi, hl, fun q hq e he hb => by
            have hlt := R.back i q hq e he hb
            exact ih _ hlt (by omega)⟩
          rw [hready] at this; simp at this
    obtain ⟨hc, hdf, E, q, g1, g2, g3, g4, g5, g6, g7, g8⟩ := h
    have hHS := R.HS_eq (l := fun j => listed.getD j false) ops.size g2 (Nat.le_refl _) (fun j h1 h2 => by
      cases hk : (R.k j).isEff with
      | false => rfl
      | true => have := g4 j h1 h2 hk; simp only [all j h2] at this; simp at this) (fun j _ h2 _ => all j h2)
    have hend : R.HS (fun j => listed.getD j false) ops.size = R.H ops.size := by
      unfold Run.HS Run.X
      refine AHeap.ext' rfl fun j => ?_
      simp only [AHeap.over]
      have : R.ex (fun j => listed.getD j false) ops.size ops.size j = none := by
        cases hx : R.ex (fun j => listed.getD j false) ops.size ops.size j with
        | none => rfl
        | some x => obtain ⟨b, cs, b1, b2, b3, b4, _⟩ := R.ex_some hx; omega
      rw [this]
    rw [hHS, hend] at g6
    refine ⟨R.T ops.size, R.H ops.size, hQ, ⟨E, g1, g6, g8.congr fun t => ?_⟩, hdf⟩
    exact (R.TS_eq (Nat.le_refl _) (fun j o hj _ _ => all j hj) (fun j o hj ho _ => by have := get_lt ho; omega)).symm
  intro fuel
  induction fuel with
  | zero =>
    intro listed a w hs hf h
    have hnil : Region.ready .any ops listed = [] := by
      cases hr : Region.ready .any ops listed with
      | nil => rfl
      | cons i r =>
        have hi : i ∈ Region.ready .any ops listed := by rw [hr]; simp
        obtain ⟨h1, h2, _⟩ := (ready_iff hs).1 hi
        have := undone_pos (f := fun j => listed.getD j false) h2 h1
        omega
    exact ⟨hnil, full listed a w hs hnil h⟩
  | succ fuel ih =>
    intro listed a w hs hf h
    refine ⟨fun hnil => full listed a w hs hnil h, fun i hi => ?_⟩
    obtain ⟨h1, h2, h3⟩ := (ready_iff hs).1 hi
    obtain ⟨o, ho⟩ := get_of (ops := ops) h1
    refine h.next hG hreal hdom0 ho h2 h3 (fun u w' hinv => ?_)
    have hadd : (fun j => (listed.setIfInBounds i true).getD j false) = add (fun j => listed.getD j false) i := by
      funext j
      simp only [add]
      split
      · rename_i e; subst e
        have : j < listed.size := by omega
        simp [this]
      · rename_i e
        simp [Array.getElem?_setIfInBounds_ne (fun e' => e e'.symm)]
    have hcount : undone (fun j => (listed.setIfInBounds i true).getD j false) ops.size = fuel := by
      rw [hadd]
      have := (undone_add (f := fun j => listed.getD j false) h2 ops.size).2 h1
      omega
    refine ih _ _ _ (by simp [hs]) hcount ?_
    rw [hadd]
    exact hinv

end
end Go.Abs
