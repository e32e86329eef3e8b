/-
  A simplified meaning for Go code, twelfth part: store, copy, clear; all that writes, together.
-/
import Derived.Test.YtcbiaeoladjecaaAbsK
namespace Go.Abs
open Go

def acopy (P : Program) (t : TypeId) (get : Nat → Option AObj) (d s : AV) : Option (AV × AEff) :=
  match P.underlying t with
  | some (.slice e) => match asize P e, alenOf d, alenOf s with
    | some z, some dl, some sl => match afirst get z (min sl dl) s with
      | some news => if news.all AV.scalar = true ∧ news.length = min sl dl * z then
        match d with
        | .nilsl => some (.int .i64 0, .same)
        | .sl i o zz _ _ _ => if zz = z then
          match get i with
          | some (.cells cs) => if o + news.length ≤ cs.length then some (.int .i64 (min sl dl : Nat), .put i (.cells (splice cs o news))) else none
          | none => none
          else none
        | .vsl _ _ => if min sl dl = 0 then some (.int .i64 0, .same) else none
        | _ => none
        else none
      | none => none
    | _, _, _ => none
  | _ => none

theorem acopy_sound {P : Program} {E : Env} {H : AHeap} {w : World} (hR : Rel E H w) {t u ty : TypeId} {d s r : AV} {eff : AEff} {ud us : Value}
    (h : acopy P t H.get d s = some (r, eff)) (hd : VRel E d ud) (hs : VRel E s us) :
    ∃ E' v w', Ext E E' ∧ VRel E' r v ∧ Rel E' (H.eff eff) w' ∧ (Builtin.copy_ #[t, u] ty #[ud, us]).run P w = .ok v w' := by
  unfold acopy at h
  split at h <;> try (simp at h; done)
  rename_i e ht
  split at h <;> try (simp at h; done)
  rename_i z dl sl hz hdl hsl
  split at h <;> try (simp at h; done)
  rename_i news hnews
  split at h <;> try (simp at h; done)
  rename_i hb
  obtain ⟨hsc, hnl⟩ := hb
  obtain ⟨vs, f1, f2, f3⟩ := afirst_sound (P := P) hR hnews hs
  have hlen := alenOf_sound (P := P) hsl hs w
  have f2' := f2 w rfl
  split at h <;> try (simp at h; done)
  · simp only [Option.some.injEq, Prod.mk.injEq] at h; obtain ⟨rfl, rfl⟩ := h
    simp only [alenOf, Option.some.injEq] at hdl
    subst hdl
    cases hd
    refine ⟨E, .int .i64 0, w, Ext.refl E, .int _ _, hR, ?_⟩
    simp only [Nat.min_zero] at f2'
    simp [Builtin.copy_, run_underlying ht, hlen, run_asize hz, f2', goInt]
  · rename_i i o zz len cap opn
    split at h <;> try (simp at h; done)
    rename_i hzz
    subst hzz
    split at h <;> try (simp at h; done)
    rename_i cs hget
    split at h <;> try (simp at h; done)
    rename_i hin
    simp only [Option.some.injEq, Prod.mk.injEq] at h; obtain ⟨rfl, rfl⟩ := h
    simp only [alenOf, Option.some.injEq] at hdl
    subst hdl
    cases hd with | sl hp hl1 hc1 ho1 hroom =>
    rename_i c' p
    obtain ⟨w', g1, g2⟩ := Rel.writes P i hp news vs cs H w o 0 hR hget f1 (fun a ha => List.all_eq_true.1 hsc a ha) (by omega)
    rw [Nat.add_zero] at g2
    refine ⟨E, .int .i64 (min sl len : Nat), w', Ext.refl E, .int _ _, g2, ?_⟩
    simp [Builtin.copy_, run_underlying ht, hlen, run_asize hz, f2', goInt, g1]
  · rename_i cs len
    split at h <;> try (simp at h; done)
    rename_i hm
    simp only [Option.some.injEq, Prod.mk.injEq] at h; obtain ⟨rfl, rfl⟩ := h
    simp only [alenOf, Option.some.injEq] at hdl
    subst hdl
    have hvs : vs = [] := by
      have : vs.length = 0 := by rw [f1.length, hnl, hm]; simp
      exact List.eq_nil_of_length_eq_zero this
    subst hvs
    rw [hm] at f2'
    cases hd <;>
    refine ⟨E, .int .i64 0, w, Ext.refl E, .int _ _, hR, ?_⟩ <;>
    simp [Builtin.copy_, run_underlying ht, hlen, run_asize hz, hm, f2', goInt, storeCells]

def aclear (P : Program) (t : TypeId) (get : Nat → Option AObj) (x : AV) : Option (AV × AEff) :=
  match P.underlying t with
  | some (.slice e) => match x with
    | .nilsl => some (.tuple [], .same)
    | .vsl _ 0 => some (.tuple [], .same)
    | .sl i o zz n _ _ => if n = 0 then some (.tuple [], .same) else
      match get i, azero P e with
      | some (.cells cs), some z => if z.cells.length = zz ∧ z.cells.all AV.scalar = true ∧ o + n * zz ≤ cs.length then some (.tuple [], .put i (.cells (splice cs o (arep z.cells n)))) else none
      | _, _ => none
    | _ => none
  | _ => none

theorem arep_length (zs : List AV) : ∀ c, (arep zs c).length = c * zs.length
  | 0 => by simp [arep]
  | c + 1 => by simp [arep, arep_length zs c, Nat.add_mul, Nat.add_comm]

theorem arep_all (zs : List AV) (h : ∀ a ∈ zs, a.scalar = true) : ∀ c, ∀ a ∈ arep zs c, a.scalar = true
  | 0, a, ha => by simp [arep] at ha
  | c + 1, a, ha => by
    simp only [arep, List.mem_append] at ha
    rcases ha with ha | ha
    · exact h a ha
    · exact arep_all zs h c a ha

theorem zeroCells_eq (z : Array Value) (n : Nat) : (Builtin.zeroCells z n).toList = vrep z.toList n := range_map_mod z n

theorem aclear_sound {P : Program} {E : Env} {H : AHeap} {w : World} (hR : Rel E H w) {t ty : TypeId} {x r : AV} {eff : AEff} {u : Value}
    (h : aclear P t H.get x = some (r, eff)) (hx : VRel E x u) :
    ∃ E' v w', Ext E E' ∧ VRel E' r v ∧ Rel E' (H.eff eff) w' ∧ (Builtin.clear_ #[t] ty #[u]).run P w = .ok v w' := by
  unfold aclear at h
  split at h <;> try (simp at h; done)
  rename_i e ht
  have tup : VRel E (.tuple []) (.tuple #[]) := .tuple .nil
  split at h <;> try (simp at h; done)
  · simp only [Option.some.injEq, Prod.mk.injEq] at h; obtain ⟨rfl, rfl⟩ := h
    cases hx
    exact ⟨E, _, w, Ext.refl E, tup, hR, by simp [Builtin.clear_, run_underlying ht]⟩
  · simp only [Option.some.injEq, Prod.mk.injEq] at h; obtain ⟨rfl, rfl⟩ := h
    cases hx <;>
    exact ⟨E, _, w, Ext.refl E, tup, hR, by simp [Builtin.clear_, run_underlying ht]⟩
  · rename_i i o zz n cap opn
    split at h
    · rename_i hn
      subst hn
      simp only [Option.some.injEq, Prod.mk.injEq] at h; obtain ⟨rfl, rfl⟩ := h
      cases hx
      exact ⟨E, _, w, Ext.refl E, tup, hR, by simp [Builtin.clear_, run_underlying ht]⟩
    · rename_i hn
      split at h <;> try (simp at h; done)
      rename_i cs z hget hz
      split at h <;> try (simp at h; done)
      rename_i hb
      obtain ⟨hb1, hb2, hb3⟩ := hb
      simp only [Option.some.injEq, Prod.mk.injEq] at h; obtain ⟨rfl, rfl⟩ := h
      obtain ⟨zv, h1, h2⟩ := run_azero E hz
      cases hx with | sl hp hl1 hc1 ho1 hroom =>
      rename_i c' p
      obtain ⟨w', g1, g2⟩ := Rel.writes P i hp (arep z.cells n) (vrep zv.cells.toList n) cs H w o 0 hR hget (arep_rel h1.cells n) (arep_all _ (fun a ha => List.all_eq_true.1 hb2 a ha) n)
        (by rw [arep_length, hb1]; omega)
      rw [Nat.add_zero] at g2
      refine ⟨E, _, w', Ext.refl E, tup, g2, ?_⟩
      obtain ⟨m, rfl⟩ : ∃ m, n = m + 1 := ⟨n - 1, by omega⟩
      simp [Builtin.clear_, run_underlying ht, h2, zeroCells_eq, g1]

/-- The mark that a conversion of a constant text lays behind a block's end. -/
theorem Rel.mark {E : Env} {H : AHeap} {w : World} (hR : Rel E H w) {i : Nat} {x : AObj} (hi : H.get i = some x) {p : Place} (hp : E.φ i = some p) (P : Program) (o : Nat) :
    ∃ w', (markStringish ⟨p.b, o, none⟩).run P w = .ok () w' ∧ Rel E H w' := by
  cases x with
  | cells cs =>
  obtain ⟨c, e, fz, vs, h1, h2, h3, h4, h5, h6, h7⟩ := hR.cellsOf hi hp
  obtain ⟨lo, hi'⟩ := fz
  have hshape : w.shape? p.b = some (e, c.size) := by simp [World.shape?, h1]
  refine ⟨w.freeze { block := p.b, off := c.size } 1, ?_, ?_⟩
  · simp only [markStringish, Sem.run_bind, run_shape, Result.andThen_ok, hshape]
    rfl
  · have hfz : Unfr (if lo == hi' then (c.size, c.size + 1) else (min lo c.size, max hi' (c.size + 1))) p.n := by
      rw [h2]
      split
      · exact .inr (Nat.le_refl _)
      · rename_i hne
        rcases h5 with h5 | h5
        · simp at hne; exact absurd h5 hne
        · exact .inr (by simp only at h5 ⊢; omega)
    have hsame : (w.freeze { block := p.b, off := c.size } 1).heap[p.b]? = some (.cells c e (if lo == hi' then (c.size, c.size + 1) else (min lo c.size, max hi' (c.size + 1)))) := by
      simp only [World.freeze]
      rw [if_neg (by omega)]
      simp only [Array.getElem?_modify]
      simp [h1]
    have hoth : ∀ C, C ≠ p.b → (w.freeze { block := p.b, off := c.size } 1).heap[C]? = w.heap[C]? := fun C hC => by
      simp only [World.freeze]
      rw [if_neg (by omega)]
      simp only [Array.getElem?_modify]
      rw [if_neg (fun e => hC e.symm)]
    have hos : (w.freeze { block := p.b, off := c.size } 1).os = w.os := by simp only [World.freeze]; rw [if_neg (by omega)]
    have hout : (w.freeze { block := p.b, off := c.size } 1).output = w.output := by simp only [World.freeze]; rw [if_neg (by omega)]
    refine ⟨hos.trans hR.os, hout.trans hR.out, fun B ob hB => ?_, fun B ob hB => ?_, hR.KF, hR.dom, ?_, hR.inj⟩
    · rw [hoth B (fun q => by subst q; rw [h6] at hB; simp at hB)]; exact hR.K B ob hB
    · rw [hoth B (fun q => by subst q; rw [h7] at hB; simp at hB)]; exact hR.F B ob hB
    · intro j y hj
      obtain ⟨q, ob, g1, g2, g3, g4, g5⟩ := hR.live j y hj
      by_cases hji : j = i
      · subst hji
        rw [hp] at g1; cases g1
        rw [hi] at hj; cases hj
        exact ⟨p, _, hp, h6, h7, hsame, c, e, _, vs, rfl, h2, h3, h4, hfz⟩
      · exact ⟨q, ob, g1, g2, g3, by rw [hoth q.b (fun r => hji (hR.inj j i y _ q p hj hi g1 hp r))]; exact g4, g5⟩

def aeff (P : Program) (ρ : Operand → Option AV) (get : Nat → Option AObj) (next : Nat) (o : Oper) : Option (AV × AEff) :=
  match o.op with
  | .store t x v => match ρ x, ρ v with
    | some (.ptr i off), some a => match get i, asize P t with
      | some (.cells cs), some n => if a.cells.length = n ∧ a.cells.all AV.scalar = true ∧ off + n ≤ cs.length then some (.tuple [], .put i (.cells (splice cs off a.cells))) else none
      | _, _ => none
    | _, _ => none
  | .convert s d x => match P.underlying s, P.underlying d, ρ x with
    | some (.slice _), some (.slice e), some (.sl i o z len cap opn) => match P.underlying e, get i with
      | some (.int .u8), some _ => if s = d then some (.sl i o z len cap opn, .same) else none
      | _, _ => none
    | _, _, _ => none
  | .call c => match c.callee, c.argTypes.toList, c.args.toList with
    | .builtin .append, [t, u], [x, y] => match ρ x, ρ y with
      | some a, some b => aappend P t u get next a b
      | _, _ => none
    | .builtin .copy, [t, _], [x, y] => match ρ x, ρ y with
      | some a, some b => acopy P t get a b
      | _, _ => none
    | .builtin .clear, [t], [x] => match ρ x with
      | some a => aclear P t get a
      | none => none
    | _, _, _ => none
  | _ => none

theorem OpRes.of {P : Program} {E : Env} {w : World} {s : Sem Value} {n : Sem Next} {r : AV} {H' : AHeap} (h : ∃ E' v w', Ext E E' ∧ VRel E' r v ∧ Rel E' H' w' ∧ s.run P w = .ok v w') (e : n = (do pure (.value (← s)))) : OpRes P E w n r H' := by
  obtain ⟨E', v, w', h1, h2, h3, h4⟩ := h
  exact ⟨E', v, w', h1, h2, h3, .inl (by rw [e]; simp [h4])⟩

theorem aeff_sound {P : Program} {E : Env} {ρ : Operand → Option AV} {σ : Operand → Value} {o : Oper} {r : AV} {eff : AEff} {H : AHeap} {w : World} (hR : Rel E H w) (hr : Operands E ρ σ o.op.operands.toList) (h : aeff P ρ H.get H.next o = some (r, eff)) :
    OpRes P E w (execOp σ o) r (H.eff eff) := by
  obtain ⟨dst, op, ty, pos, after, guard⟩ := o
  cases op <;> simp only [aeff] at h <;> simp only [Op.operands] at hr <;> try (simp at h; done)
  case store t x v =>
    split at h <;> try (simp at h; done)
    rename_i i off a hx hv
    split at h <;> try (simp at h; done)
    rename_i cs n hget hn
    split at h <;> try (simp at h; done)
    rename_i hb
    obtain ⟨hb1, hb2, hb3⟩ := hb
    simp only [Option.some.injEq, Prod.mk.injEq] at h; obtain ⟨rfl, rfl⟩ := h
    have hxv := hr x (by simp) _ hx
    have hvv := hr v (by simp) _ hv
    obtain ⟨p, hp⟩ := hR.place hget
    have e1 : σ x = .pointer (some ⟨p.b, p.s + off, none⟩) := by
      generalize σ x = u at hxv
      cases hxv with | ptr hq => rw [hp] at hq; cases hq; rfl
    obtain ⟨w', g1, g2⟩ := Rel.writes P i hp a.cells (σ v).cells.toList cs H w off 0 hR hget hvv.cells (fun b hb => List.all_eq_true.1 hb2 b hb) (by omega)
    rw [Nat.add_zero] at g2
    refine ⟨E, undef, w', Ext.refl E, .tuple .nil, g2, .inr ⟨?_, rfl⟩⟩
    have hsz : (σ v).cells.size = n := by have := hvv.cells.length; rw [Array.length_toList] at this; omega
    simp [execOp, e1, Instr.storeAt, Instr.sureAddr, storeVar, run_asize hn, hsz, g1]
  case convert s d x =>
    split at h <;> try (simp at h; done)
    rename_i e0 e i off z len cap opn hs hd hx
    split at h <;> try (simp at h; done)
    rename_i y he hget
    split at h <;> try (simp at h; done)
    rename_i hsd
    simp only [Option.some.injEq, Prod.mk.injEq] at h; obtain ⟨rfl, rfl⟩ := h
    have hxv := hr x (by simp) _ hx
    have hxv' := hxv
    generalize hsx : σ x = u at hxv hxv'
    cases hxv with | sl hp hl1 hc1 ho1 hroom =>
    rename_i c' p
    obtain ⟨w', g1, g2⟩ := hR.mark hget hp P (p.s + off)
    refine ⟨E, _, w', Ext.refl E, hxv', g2, .inl ?_⟩
    have hconv : (convert s d (.slice (some ⟨p.b, p.s + off, none⟩) len c')).run P w = .ok (.slice (some ⟨p.b, p.s + off, none⟩) len c') w' := by
      subst hsd
      rw [hd] at hs; cases hs
      simp only [convert, Sem.run_bind, run_underlying hd, Result.andThen_ok, run_underlying he]
      simp [g1]
    simp only [execOp, hsx, Sem.run_bind, hconv, Result.andThen_ok, Sem.run_pure]
  case call c =>
    obtain ⟨callee, args, argTypes⟩ := c
    have harg : ∀ x ∈ args.toList, x ∈ (Call.operands { callee, args, argTypes }).toList := fun x hx => by
      simp only [Call.operands, Array.toList_append, List.mem_append]; exact .inr hx
    simp only at h
    split at h
    · rename_i t u x y hat hxy
      split at h <;> try (simp at h; done)
      rename_i a b ha hb
      have hargs : args = #[x, y] := by cases args; simp_all
      have hat' : argTypes = #[t, u] := by cases argTypes; simp_all
      subst hargs; subst hat'
      refine .of (s := Builtin.append_ #[t, u] ty (#[x, y].map σ)) ?_ rfl
      rw [List.map_toArray]
      exact aappend_sound hR h (hr x (harg x (by simp)) _ ha) (hr y (harg y (by simp)) _ hb)
    · rename_i t u x y hat hxy
      split at h <;> try (simp at h; done)
      rename_i a b ha hb
      have hargs : args = #[x, y] := by cases args; simp_all
      have hat' : argTypes = #[t, u] := by cases argTypes; simp_all
      subst hargs; subst hat'
      refine .of (s := Builtin.copy_ #[t, u] ty (#[x, y].map σ)) ?_ rfl
      rw [List.map_toArray]
      exact acopy_sound hR h (hr x (harg x (by simp)) _ ha) (hr y (harg y (by simp)) _ hb)
    · rename_i t x hat hxy
      split at h <;> try (simp at h; done)
      rename_i a ha
      have hargs : args = #[x] := by cases args; simp_all
      have hat' : argTypes = #[t] := by cases argTypes; simp_all
      subst hargs; subst hat'
      refine .of (s := Builtin.clear_ #[t] ty (#[x].map σ)) ?_ rfl
      rw [List.map_toArray]
      exact aclear_sound hR h (hr x (harg x (by simp)) _ ha)
    · simp at h

end Go.Abs
