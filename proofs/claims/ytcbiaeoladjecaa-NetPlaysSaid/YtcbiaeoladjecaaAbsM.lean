/-
  A simplified meaning for Go code, thirteenth part: the judgements on operations, code, functions, and their rules.
-/
import Derived.Test.YtcbiaeoladjecaaAbsL
import Derived.Tactics
namespace Go.Abs
open Go

def aop (P : Program) (ρ : Operand → Option AV) (get : Nat → Option AObj) (next : Nat) (o : Oper) : Option (AV × AEff) :=
  match o.op with
  | .load .. => (aread P ρ get o).map fun v => (v, .same)
  | .convert .. => match apure P ρ o with
    | some v => some (v, .same)
    | none => match aread P ρ get o with
      | some v => some (v, .same)
      | none => match aalloc P ρ o with
        | some (cs, f) => some (f next, .new (.cells cs))
        | none => aeff P ρ get next o
  | .alloc _ | .box .. | .buildSlice .. | .makeSlice .. => match aalloc P ρ o with
    | some (cs, f) => some (f next, .new (.cells cs))
    | none => none
  | .store .. => aeff P ρ get next o
  | .call c => match c.callee with
    | .builtin .append | .builtin .copy | .builtin .clear => aeff P ρ get next o
    | .builtin _ => (apure P ρ o).map fun v => (v, .same)
    | _ => none
  | _ => (apure P ρ o).map fun v => (v, .same)

theorem OpRes.ofPure {P : Program} {E : Env} {σ : Operand → Value} {o : Oper} {v : AV} {H : AHeap} {w : World} (hR : Rel E H w) (h : Gives P E σ o v) : OpRes P E w (execOp σ o) v (H.eff .same) := by
  obtain ⟨u, h1, h2⟩ := h
  exact ⟨E, u, w, Ext.refl E, h1, hR, .inl (h2 w)⟩

theorem OpRes.ofRead {P : Program} {E : Env} {σ : Operand → Value} {o : Oper} {v : AV} {H : AHeap} {w : World} (hR : Rel E H w) (h : Reads P E σ o v w) : OpRes P E w (execOp σ o) v (H.eff .same) := by
  obtain ⟨u, h1, h2⟩ := h
  exact ⟨E, u, w, Ext.refl E, h1, hR, .inl h2⟩

theorem OpRes.ofLays {P : Program} {E : Env} {σ : Operand → Value} {o : Oper} {cs : List AV} {f : Nat → AV} {H : AHeap} {w : World} (hR : Rel E H w) (h : Lays P E σ o cs f) : OpRes P E w (execOp σ o) (f H.next) (H.eff (.new (.cells cs))) := by
  obtain ⟨vs, h1, h2⟩ := h
  obtain ⟨c, e, fz, v, w', g1, g2, g3, g4, g5, g6, g7⟩ := h2 w
  exact ⟨_, v, w', Env.put_ext hR.fresh, g7 _ _ (by simp [Env.put]), hR.push g2 g3 g4 h1 g5 g6, .inl g1⟩

theorem aop_sound {P : Program} {E : Env} {ρ : Operand → Option AV} {σ : Operand → Value} {o : Oper} {r : AV} {eff : AEff} {H : AHeap} {w : World} (hR : Rel E H w) (hr : Operands E ρ σ o.op.operands.toList) (h : aop P ρ H.get H.next o = some (r, eff)) :
    OpRes P E w (execOp σ o) r (H.eff eff) := by
  have pureCase : (apure P ρ o).map (fun v => (v, AEff.same)) = some (r, eff) → OpRes P E w (execOp σ o) r (H.eff eff) := fun h => by
    simp only [Option.map_eq_some_iff, Prod.mk.injEq] at h
    obtain ⟨v, h1, rfl, rfl⟩ := h
    exact .ofPure hR (apure_sound hr h1)
  have allocCase : (match aalloc P ρ o with | some (cs, f) => some (f H.next, AEff.new (.cells cs)) | none => none) = some (r, eff) → OpRes P E w (execOp σ o) r (H.eff eff) := fun h => by
    split at h
    · rename_i cs f h1
      simp only [Option.some.injEq, Prod.mk.injEq] at h; obtain ⟨rfl, rfl⟩ := h
      exact .ofLays hR (aalloc_sound hr h1)
    · simp at h
  unfold aop at h
  split at h
  · simp only [Option.map_eq_some_iff, Prod.mk.injEq] at h
    obtain ⟨v, h1, rfl, rfl⟩ := h
    exact .ofRead hR (aread_sound hR hr h1)
  · split at h
    · rename_i v h1
      simp only [Option.some.injEq, Prod.mk.injEq] at h; obtain ⟨rfl, rfl⟩ := h
      exact .ofPure hR (apure_sound hr h1)
    · split at h
      · rename_i v h1
        simp only [Option.some.injEq, Prod.mk.injEq] at h; obtain ⟨rfl, rfl⟩ := h
        exact .ofRead hR (aread_sound hR hr h1)
      · split at h
        · rename_i cs f h1
          simp only [Option.some.injEq, Prod.mk.injEq] at h; obtain ⟨rfl, rfl⟩ := h
          exact .ofLays hR (aalloc_sound hr h1)
        · exact aeff_sound hR hr h
  · exact allocCase h
  · exact allocCase h
  · exact allocCase h
  · exact allocCase h
  · exact aeff_sound hR hr h
  · split at h
    · exact aeff_sound hR hr h
    · exact aeff_sound hR hr h
    · exact aeff_sound hR hr h
    · exact pureCase h
    · simp at h
  · exact pureCase h

def undefA : AV := .tuple []
theorem undef_rel (E : Env) : VRel E undefA undef := .tuple .nil

def tput (T : Nat → AV) (d : Option Tmp) (v : AV) : Nat → AV := match d with
  | some d => fun t => if t = d then v else T t
  | none => T

def GRel (E : Env) (G : Nat → Option AV) : Prop := ∀ g a, G g = some a → VRel E a (.pointer (some ⟨g, 0, none⟩))

theorem GRel.mono {E E' : Env} {G : Nat → Option AV} (h : GRel E G) (x : Knows E E') : GRel E' G := fun g a ha => (h g a ha).mono x

structure TRel (E : Env) (N : Nat) (T : Nat → AV) (tmps : Array Value) : Prop where
  size : tmps.size = N
  rel : ∀ t, VRel E (T t) (tmps.getD t undef)

theorem TRel.mono {E E' : Env} {N : Nat} {T : Nat → AV} {tmps : Array Value} (h : TRel E N T tmps) (x : Knows E E') : TRel E' N T tmps := ⟨h.size, fun t => (h.rel t).mono x⟩

theorem TRel.put {E : Env} {N : Nat} {T : Nat → AV} {a : Act} (h : TRel E N T a.tmps) (d : Option Tmp) {v : AV} {u : Value} (hv : VRel E v u) (hd : ∀ k, d = some k → k < N) : TRel E N (tput T d v) (a.put d u).tmps := by
  cases d with
  | none => exact h
  | some k =>
    have hk := hd k rfl
    refine ⟨by simp [Act.put, h.size], fun t => ?_⟩
    simp only [tput, Act.put]
    by_cases ht : t = k
    · subst ht
      rw [if_pos rfl]
      have e : (a.tmps.setIfInBounds t u).getD t undef = u := by
        have : t < a.tmps.size := by rw [h.size]; exact hk
        simp [this]
      rw [e]; exact hv
    · rw [if_neg ht]
      have e : (a.tmps.setIfInBounds k u).getD t undef = a.tmps.getD t undef := by
        simp [Array.getElem?_setIfInBounds_ne (fun e => ht e.symm)]
      rw [e]; exact h.rel t

theorem TRel.operands {E : Env} {N : Nat} {T : Nat → AV} {a : Act} {G : Nat → Option AV} (h : TRel E N T a.tmps) (hG : GRel E G) (xs : List Operand) : Operands E (aval G T) a.eval xs := by
  intro x _ b hb
  cases x with
  | tmp t => simp only [aval, Option.some.injEq] at hb; subst hb; exact h.rel t
  | const v => exact ofConst_rel E hb
  | global g => exact hG g b hb
  | func f => simp only [aval, Option.some.injEq] at hb; subst hb; exact .func .nil .nil

/-- The model's state at hand is as the abstract one says. -/
structure St (E0 : Env) (N : Nat) (T : Nat → AV) (H : AHeap) (a : Act) (w : World) : Prop where
  ex : ∃ E, Ext E0 E ∧ Rel E H w ∧ TRel E N T a.tmps
  defers : a.defers = []

def lift (Q : Exit → (Nat → AV) → AHeap → Prop) (E0 : Env) (N : Nat) : Exit → Act → World → Prop := fun e a w => ∃ T H, Q e T H ∧ St E0 N T H a w

/-- Operations, one behind the other. -/
def AL (P : Program) (G : Nat → Option AV) (N : Nat) (ops : Array Oper) (l : List Oper) (Q : Exit → (Nat → AV) → AHeap → Prop) (T : Nat → AV) (H : AHeap) : Prop :=
  ∀ E0 a w, GRel E0 G → St E0 N T H a w → wpList P ops (lift Q E0 N) l a w

/-- A piece of code. -/
def AW (P : Program) (G : Nat → Option AV) (N : Nat) (c : Code) (Q : Exit → (Nat → AV) → AHeap → Prop) (T : Nat → AV) (H : AHeap) : Prop :=
  ∀ E0 a w, GRel E0 G → St E0 N T H a w → c.wp P (lift Q E0 N) a w

def Enters (P : Program) (f : FuncId) : Prop := ∀ args w, (callFunc f args).run P w = .ok (.enter f args) w

/-- A call as an operation: it enters the function and comes back, or the model runs it by itself. -/
def OpCalls (P : Program) (f : FuncId) (vs : Array Value) (w : World) (K : Value → World → Prop) : Prop :=
  ((callFunc f vs).run P w = .ok (.enter f vs) w ∧ Calls P f vs w fun e w' => ∃ v, e = .returned v ∧ K v w') ∨ ∃ v w', (callFunc f vs).run P w = .ok (.value v) w' ∧ K v w'

theorem OpCalls.mono {P : Program} {f : FuncId} {vs : Array Value} {w : World} {K K' : Value → World → Prop} (h : OpCalls P f vs w K) (hk : ∀ v w', K v w' → K' v w') : OpCalls P f vs w K' := by
  rcases h with ⟨h1, h2⟩ | ⟨v, w', h1, h2⟩
  · exact .inl ⟨h1, h2.mono fun e w' ⟨v, e1, e2⟩ => ⟨v, e1, hk v w' e2⟩⟩
  · exact .inr ⟨v, w', h1, hk v w' h2⟩

/-- What a call leaves, related. -/
def Ends (E : Env) (R : AV → AHeap → Prop) (v : Value) (w' : World) : Prop := ∃ r H' E', R r H' ∧ Ext E E' ∧ VRel E' r v ∧ Rel E' H' w'

theorem Ends.mono {E : Env} {R R' : AV → AHeap → Prop} (hr : ∀ r H', R r H' → R' r H') {v : Value} {w' : World} (h : Ends E R v w') : Ends E R' v w' := by
  obtain ⟨r, H', E', g, rest⟩ := h
  exact ⟨r, H', E', hr _ _ g, rest⟩

/-- A function, at these arguments and this heap. -/
structure Does (P : Program) (G : Nat → Option AV) (f : FuncId) (args : List AV) (H : AHeap) (R : AV → AHeap → Prop) : Prop where
  run : ∀ E w (vs : List Value), Rel E H w → GRel E G → VRels E args vs → OpCalls P f vs.toArray w (Ends E R)

theorem Does.mono {P : Program} {G : Nat → Option AV} {f : FuncId} {args : List AV} {H : AHeap} {R R' : AV → AHeap → Prop} (h : Does P G f args H R) (hr : ∀ r H', R r H' → R' r H') : Does P G f args H R' :=
  ⟨fun E w vs hR hG hv => (h.run E w vs hR hG hv).mono fun _ _ => Ends.mono hr⟩

section
variable {P : Program} {G : Nat → Option AV} {N : Nat} {ops : Array Oper} {Q : Exit → (Nat → AV) → AHeap → Prop} {T : Nat → AV} {H : AHeap}

theorem al_nil (h : Q .normal T H) : AL P G N ops [] Q T H := fun _ _ _ _ hs => ⟨T, H, h, hs⟩

def ayield (ops : Array Oper) (T : Nat → AV) (j : Nat) : Option Bool := match (ops[j]?).bind (·.dst) with
  | some d => match T d with
    | .bool b => some b
    | _ => none
  | none => none

theorem ayield_eq {E : Env} {tmps : Array Value} (h : TRel E N T tmps) (j : Nat) : yielded ops tmps j = ayield ops T j := by
  unfold yielded ayield
  cases hd : (ops[j]?).bind (·.dst) with
  | none => rfl
  | some d =>
    simp only [Option.bind_some]
    have hr := h.rel d
    cases ht : tmps[d]? with
    | none =>
      have e : tmps.getD d undef = undef := by simp [ht]
      rw [e] at hr
      generalize T d = x at hr
      unfold undef at hr
      cases hr
      rfl
    | some v =>
      have e : tmps.getD d undef = v := by simp [ht]
      rw [e] at hr
      generalize T d = x at hr
      cases hr <;> rfl

def awanted (ops : Array Oper) (T : Nat → AV) (o : Oper) : Bool := match o.guard with
  | none => true
  | some (j, want) => ayield ops T j == some want

theorem awanted_eq {E : Env} {tmps : Array Value} (h : TRel E N T tmps) (o : Oper) : Region.wanted o (yielded ops tmps) = awanted ops T o := by
  unfold Region.wanted awanted
  cases o.guard with
  | none => rfl
  | some p => simp only [ayield_eq h]

/-- An operation that is not wanted (its guard says no). -/
theorem al_skip {o : Oper} {rest : List Oper} (hw : awanted ops T o = false) (hd : ∀ k, o.dst = some k → k < N) (h : AL P G N ops rest Q (tput T o.dst undefA) H) : AL P G N ops (o :: rest) Q T H := by
  intro E0 a w hG hs
  obtain ⟨⟨E, hx, hR, hT⟩, hdf⟩ := hs
  unfold wpList
  rw [awanted_eq hT, hw]
  refine h E0 _ w hG ⟨⟨E, hx, hR, hT.put o.dst (undef_rel E) hd⟩, ?_⟩
  cases o.dst <;> exact hdf

theorem wp_of_run {o : Oper} {a : Act} {w w' : World} {v : Value} {K : Act → World → Prop} {Q' : Exit → Act → World → Prop} (h : (execOp a.eval o).run P w = .ok (.value v) w' ∨ ((execOp a.eval o).run P w = .ok .skip w' ∧ v = undef)) (hk : K (a.put o.dst v) w') : o.wp P a w K Q' := by
  unfold Oper.wp
  rcases h with h | ⟨h, rfl⟩
  · rw [h]; exact hk
  · rw [h]; exact hk

/-- An operation other than a call of a function. -/
theorem al_op {o : Oper} {rest : List Oper} {v : AV} {eff : AEff} (hw : awanted ops T o = true) (hd : ∀ k, o.dst = some k → k < N) (ho : aop P (aval G T) H.get H.next o = some (v, eff))
    (h : AL P G N ops rest Q (tput T o.dst v) (H.eff eff)) : AL P G N ops (o :: rest) Q T H := by
  intro E0 a w hG hs
  obtain ⟨⟨E, hx, hR, hT⟩, hdf⟩ := hs
  unfold wpList
  rw [awanted_eq hT, hw, if_pos rfl]
  obtain ⟨E', u, w', g1, g2, g3, g4⟩ := aop_sound hR (hT.operands (hG.mono hx.knows) o.op.operands.toList) ho
  refine .inl (wp_of_run g4 (h E0 _ w' hG ⟨⟨E', hx.trans g1, g3, (hT.mono g1.knows).put o.dst g2 hd⟩, ?_⟩))
  cases o.dst <;> exact hdf

/-- Which function a call calls, at which arguments. -/
def acallee (ρ : Operand → Option AV) (o : Oper) : Option (FuncId × List AV) := match o.op with
  | .call c => match c.callee with
    | .value f => match ρ f, avals ρ c.args.toList with
      | some (.func (.func k) first captured), some args => some (k, first ++ args ++ captured)
      | _, _ => none
    | _ => none
  | _ => none

/-- A call of a function. -/
theorem al_call {o : Oper} {rest : List Oper} {f : FuncId} {args : List AV} (hw : awanted ops T o = true) (hd : ∀ k, o.dst = some k → k < N) (hc : acallee (aval G T) o = some (f, args))
    (h : Does P G f args H fun r H' => AL P G N ops rest Q (tput T o.dst r) H') : AL P G N ops (o :: rest) Q T H := by
  intro E0 a w hG hs
  obtain ⟨⟨E, hx, hR, hT⟩, hdf⟩ := hs
  unfold wpList
  rw [awanted_eq hT, hw, if_pos rfl]
  refine .inl ?_
  obtain ⟨dst, op, ty, pos, after, guard⟩ := o
  unfold acallee at hc
  cases op <;> simp only at hc <;> try (simp at hc; done)
  rename_i c
  obtain ⟨callee, cargs, argTypes⟩ := c
  cases callee <;> simp only at hc <;> try (simp at hc; done)
  rename_i fo
  split at hc <;> try (simp at hc; done)
  rename_i k first captured as hf has
  simp only [Option.some.injEq, Prod.mk.injEq] at hc
  obtain ⟨rfl, rfl⟩ := hc
  have hops := hT.operands (hG.mono hx.knows) (fo :: cargs.toList)
  have hfv := hops fo (by simp) _ hf
  have hargs := avals_sound (E := E) (σ := a.eval) (fun x hx => hops x (by simp [hx])) has
  generalize hfe : a.eval fo = fv at hfv
  cases hfv with | func hf1 hc1 =>
  rename_i f2 c2
  have hrun : (execOp a.eval { dst, op := .call { callee := .value fo, args := cargs, argTypes }, type := ty, pos, after, guard }).run P w = (callFunc k (f2 ++ cargs.map a.eval ++ c2)).run P w := by
    simp [execOp, resolve, hfe, Deferred.ofValue, invoke]
  have hall : VRels E (first ++ as ++ captured) (f2 ++ cargs.map a.eval ++ c2).toList := by
    simp only [Array.toList_append, Array.toList_map]
    exact (hf1.append hargs).append hc1
  have hcl := h.run E w _ hR (hG.mono hx.knows) hall
  simp only [Array.toArray_toList] at hcl
  unfold Oper.wp
  rw [hrun]
  have fin : ∀ v w', Ends E (fun r H' => AL P G N ops rest Q (tput T dst r) H') v w' → wpList P ops (lift Q E0 N) rest (a.put dst v) w' := by
    rintro v w' ⟨r, H', E', g1, g2, g3, g4⟩
    refine g1 E0 _ w' hG ⟨⟨E', hx.trans g2, g4, (hT.mono g2.knows).put dst g3 hd⟩, ?_⟩
    cases dst <;> exact hdf
  rcases hcl with ⟨h1, h2⟩ | ⟨v, w', h1, h2⟩
  · rw [h1]
    refine h2.mono ?_
    rintro e w' ⟨v, rfl, hk⟩
    exact fin v w' hk
  · rw [h1]
    exact fin v w' h2

/-! ### code -/

theorem aw_region {id : Nat} (h : AL P G N ops ops.toList Q T H) : AW P G N (.region id ops false) Q T H :=
  fun E0 a w hG hs => wp_region_list (h E0 a w hG hs)

theorem aw_skip (h : Q .normal T H) : AW P G N .skip Q T H := fun _ _ _ _ hs => wp_skip ⟨T, H, h, hs⟩
theorem aw_ret (h : Q .ret T H) : AW P G N .ret Q T H := fun _ _ _ _ hs => wp_ret ⟨T, H, h, hs⟩
theorem aw_exit {id : Nat} (h : Q (.exit id) T H) : AW P G N (.exit id) Q T H := fun _ _ _ _ hs => wp_exit ⟨T, H, h, hs⟩

theorem AW.mono {c : Code} {Q' : Exit → (Nat → AV) → AHeap → Prop} (h : AW P G N c Q T H) (hq : ∀ e T H, Q e T H → Q' e T H) : AW P G N c Q' T H :=
  fun E0 a w hG hs => wp_mono (h E0 a w hG hs) fun _ _ _ ⟨T', H', q, s⟩ => ⟨T', H', hq _ _ _ q, s⟩

def QThen (K : (Nat → AV) → AHeap → Prop) (Q : Exit → (Nat → AV) → AHeap → Prop) : Exit → (Nat → AV) → AHeap → Prop
  | .normal, T, H => K T H
  | e, T, H => Q e T H

theorem aw_seq {x y : Code} (h : AW P G N x (QThen (fun T H => AW P G N y Q T H) Q) T H) : AW P G N (.seq x y) Q T H := by
  intro E0 a w hG hs
  refine wp_seq (wp_mono (h E0 a w hG hs) ?_)
  rintro e a' w' ⟨T', H', q, s⟩
  cases e with
  | normal => exact q E0 a' w' hG s
  | exit id => exact ⟨T', H', q, s⟩
  | goto l => exact ⟨T', H', q, s⟩
  | ret => exact ⟨T', H', q, s⟩
  | panic c => exact ⟨T', H', q, s⟩
  | outgrown => exact ⟨T', H', q, s⟩

theorem aw_cond {c : Operand} {x y : Code} {b : Bool} (hc : aval G T c = some (.bool b)) (h : AW P G N (if b then x else y) Q T H) : AW P G N (.cond c x y) Q T H := by
  intro E0 a w hG hs
  obtain ⟨⟨E, hx, hR, hT⟩, hdf⟩ := hs
  have := hT.operands (hG.mono hx.knows) [c] c (by simp) _ hc
  have e : a.eval c = .bool b := by generalize a.eval c = v at this; cases this; rfl
  exact wp_cond e (h E0 a w hG ⟨⟨E, hx, hR, hT⟩, hdf⟩)

def QBlock (id : Nat) (Q : Exit → (Nat → AV) → AHeap → Prop) : Exit → (Nat → AV) → AHeap → Prop
  | .exit id', T, H => if id' = id then Q .normal T H else Q (.exit id') T H
  | e, T, H => Q e T H

theorem aw_block {id : Nat} {c : Code} (h : AW P G N c (QBlock id Q) T H) : AW P G N (.block id c) Q T H := by
  intro E0 a w hG hs
  refine wp_block (wp_mono (h E0 a w hG hs) ?_)
  rintro e a' w' ⟨T', H', q, s⟩
  cases e with
  | exit id' =>
    simp only [QBlock] at q
    simp only [Exit.inBlock]
    split at q
    · rename_i hid; rw [if_pos hid]; exact ⟨T', H', q, s⟩
    · rename_i hid; rw [if_neg hid]; exact ⟨T', H', q, s⟩
  | normal => exact ⟨T', H', q, s⟩
  | goto l => exact ⟨T', H', q, s⟩
  | ret => exact ⟨T', H', q, s⟩
  | panic c => exact ⟨T', H', q, s⟩
  | outgrown => exact ⟨T', H', q, s⟩

/-- A loop: what holds at each round's head, and a measure. -/
theorem aw_loop {c : Code} (I : Nat → (Nat → AV) → AHeap → Prop) (n : Nat) (h0 : I n T H)
    (round : ∀ n T H, I n T H → AW P G N c (QThen (fun T' H' => ∃ m, m < n ∧ I m T' H') Q) T H) : AW P G N (.loop c) Q T H := by
  intro E0 a w hG hs b k cs
  have key : ∀ n T H a w, I n T H → St E0 N T H a w → ∃ e a' w', lift Q E0 N e a' w' ∧ Arrives P (lone (b.at a (.code c :: .inLoop c :: k)) cs w) b k cs e a' w' := by
    intro n
    induction n using Nat.strongRecOn with
    | _ n ih =>
      intro T H a w hI hs
      obtain ⟨e, a1, w1, ⟨T1, H1, q, s⟩, harr⟩ := round n T H hI E0 a w hG hs b (.inLoop c :: k) cs
      cases e with
      | normal =>
        obtain ⟨m, hm, hI'⟩ := q
        obtain ⟨e2, a2, w2, q2, harr2⟩ := ih m hm T1 H1 a1 w1 hI' s
        exact ⟨e2, a2, w2, q2, .of_steps (Steps.trans harr (.one step_inLoop)) harr2⟩
      | exit id => exact ⟨_, a1, w1, ⟨T1, H1, q, s⟩, .pass (x := .inLoop c) rfl (fun _ _ => .inl (by simp)) harr⟩
      | goto l => exact ⟨_, a1, w1, ⟨T1, H1, q, s⟩, .pass (x := .inLoop c) rfl (fun _ _ => .inl (by simp)) harr⟩
      | ret => exact ⟨_, a1, w1, ⟨T1, H1, q, s⟩, .pass (x := .inLoop c) rfl (fun _ _ => .inl (by simp)) harr⟩
      | panic ch => exact ⟨_, a1, w1, ⟨T1, H1, q, s⟩, .pass (x := .inLoop c) rfl (fun _ _ => .inl (by simp)) harr⟩
      | outgrown => exact ⟨_, a1, w1, ⟨T1, H1, q, s⟩, .pass (x := .inLoop c) rfl (fun _ _ => .inl (by simp)) harr⟩
  obtain ⟨e, a', w', hq, harr⟩ := key n T H a w h0 hs
  exact ⟨e, a', w', hq, .of_steps (.one step_loop) harr⟩

/-! ### functions -/

def aresult (P : Program) (T : Nat → AV) (get : Nat → Option AObj) : ResultVar → Option AV
  | .tmp t => some (T t)
  | .cell a t => match aat get (T a) with
    | some cs => acut P t cs
    | none => none

def aresults (P : Program) (T : Nat → AV) (get : Nat → Option AObj) : List ResultVar → Option (List AV)
  | [] => some []
  | r :: rs => match aresult P T get r, aresults P T get rs with
    | some a, some as => some (a :: as)
    | _, _ => none

def ares (P : Program) (T : Nat → AV) (get : Nat → Option AObj) (rs : List ResultVar) : Option AV :=
  match aresults P T get rs with
  | some [a] => some a
  | some as => some (.tuple as)
  | none => none

def resOne (tmps : Array Value) : ResultVar → Sem Value
  | .tmp t => pure (tmps.getD t undef)
  | .cell a t => do loadVar t (← asAddr (tmps.getD a undef))

theorem results_eq (fn : Func) (tmps : Array Value) : results fn tmps = (fn.results.mapM (resOne tmps) >>= fun vs => pure (if h : vs.size = 1 then vs[0] else .tuple vs)) := by
  unfold results
  refine congrArg (fun g => (fn.results.mapM g >>= fun vs => pure (if h : vs.size = 1 then vs[0] else .tuple vs) : Sem Value)) ?_
  funext x
  cases x <;> rfl

theorem aresults_sound {E : Env} {w : World} {tmps : Array Value} (hR : Rel E H w) (hT : TRel E N T tmps) : ∀ (rs : List ResultVar) (as : List AV), aresults P T H.get rs = some as →
    ∃ vs, VRels E as vs ∧ (rs.mapM (resOne tmps)).run P w = .ok vs w
  | [], as, h => by simp [aresults] at h; subst h; exact ⟨[], .nil, rfl⟩
  | r :: rs, as, h => by
    simp only [aresults] at h
    split at h <;> try (simp at h; done)
    rename_i a as' h1 h2
    simp only [Option.some.injEq] at h; subst h
    obtain ⟨vs, g1, g2⟩ := aresults_sound hR hT rs as' h2
    cases r with
    | tmp t =>
      simp only [aresult, Option.some.injEq] at h1; subst h1
      refine ⟨tmps.getD t undef :: vs, .cons (hT.rel t) g1, ?_⟩
      simp only [List.mapM_cons, resOne, Sem.run_bind, Sem.run_pure, Result.andThen_ok]
      rw [g2]; rfl
    | cell p t =>
      simp only [aresult] at h1
      split at h1 <;> try (simp at h1; done)
      rename_i cs hcs
      obtain ⟨v, k1, k2⟩ := aat_load (P := P) hR hcs h1 (hT.rel p)
      refine ⟨v :: vs, .cons k1 g1, ?_⟩
      have hload : (resOne tmps (.cell p t)).run P w = .ok v w := by
        have hp := hT.rel p
        simp only [resOne]
        generalize tmps.getD p undef = u at hp k2 ⊢
        generalize T p = x at hcs hp
        unfold aat at hcs
        split at hcs
        · cases hp
          simp only [Sem.run_bind, asAddr, Sem.run_pure, Result.andThen_ok]
          simpa [Instr.loadAt, Instr.sureAddr] using k2
        · cases hp
          simp only [Sem.run_bind, asAddr, Sem.run_pure, Result.andThen_ok]
          simpa [Instr.loadAt, Instr.sureAddr] using k2
        · simp at hcs
      simp only [List.mapM_cons]
      rw [Sem.run_bind, hload, Result.andThen_ok, Sem.run_bind, g2]
      rfl

theorem ares_sound {E : Env} {w : World} {tmps : Array Value} {fn : Func} {r : AV} (hR : Rel E H w) (hT : TRel E N T tmps) (h : ares P T H.get fn.results.toList = some r) : ∃ v, VRel E r v ∧ (results fn tmps).run P w = .ok v w := by
  unfold ares at h
  have key : ∀ as, aresults P T H.get fn.results.toList = some as → ∃ vs, VRels E as vs ∧ (results fn tmps).run P w = .ok (if h : vs.toArray.size = 1 then vs.toArray[0] else .tuple vs.toArray) w := fun as has => by
    obtain ⟨vs, g1, g2⟩ := aresults_sound (P := P) hR hT fn.results.toList as has
    refine ⟨vs, g1, ?_⟩
    rw [results_eq, Sem.run_bind, Array.mapM_eq_mapM_toList, Sem.run_map, g2]
    rfl
  split at h
  · rename_i a has
    simp only [Option.some.injEq] at h; subst h
    obtain ⟨vs, g1, g2⟩ := key _ has
    cases g1 with | cons g1 g3 =>
    cases g3
    exact ⟨_, g1, g2⟩
  · rename_i as hne has
    simp only [Option.some.injEq] at h; subst h
    obtain ⟨vs, g1, g2⟩ := key _ has
    have hl := g1.length
    have hv : ¬ (vs.toArray.size = 1) := fun e => by
      simp at e
      rw [e] at hl
      match as, hl with
      | [a], _ => exact hne a rfl
    rw [dif_neg hv] at g2
    exact ⟨_, .tuple g1, g2⟩
  · simp at h

theorem does_of {f : FuncId} {fn : Func} {c : Code} {args : List AV} {R : AV → AHeap → Prop} (he : Enters P f) (hf : P.funcs[f]? = some fn) (hb : fn.body = some c) (hn : args.length ≤ fn.ntmps)
    (h : AW P G fn.ntmps c (fun e T' H' => (e = .normal ∨ e = .ret) ∧ ∃ r, ares P T' H'.get fn.results.toList = some r ∧ R r H') (fun t => args.getD t undefA) H) : Does P G f args H R := by
  refine ⟨fun E w vs hR hG hv => .inl ⟨he _ _, ?_⟩⟩
  have hvl := hv.length
  have hT : TRel E fn.ntmps (fun t => args.getD t undefA) (vs.toArray ++ Array.replicate (fn.ntmps - vs.toArray.size) undef) := by
    refine ⟨by simp; omega, fun t => ?_⟩
    have e : (vs.toArray ++ Array.replicate (fn.ntmps - vs.toArray.size) undef).getD t undef = vs.getD t undef := by
      simp only [Array.getD_eq_getD_getElem?, List.getD, Array.getElem?_append]
      by_cases ht : t < vs.length
      · simp [ht]
      · simp [ht, Array.getElem?_replicate]
        split <;> rfl
    rw [e]
    exact hv.getD t (undef_rel E)
  refine calls_of_wp hf hb (wp_mono (h E _ w hG ⟨⟨E, Ext.refl E, hR, hT⟩, rfl⟩) ?_)
  rintro e a' w' ⟨T', H', ⟨he', r, hr, hRr⟩, ⟨E', hx, hR', hT'⟩, hdf⟩
  obtain ⟨v, g1, g2⟩ := ares_sound hR' hT' hr
  rcases he' with rfl | rfl
  · exact ⟨hdf, v, g2, v, rfl, r, H', E', hRr, hx, g1, hR'⟩
  · exact ⟨hdf, v, g2, v, rfl, r, H', E', hRr, hx, g1, hR'⟩

end
end Go.Abs
