/-
  A simplified meaning for Go code, seventh part: literals, builtins; 'apure': every operation that looks at no memory.
-/
import Derived.Test.YtcbiaeoladjecaaAbsF
import Derived.Laws.Tables
namespace Go.Abs
open Go

def afill (place : Nat → Option (Nat × Nat)) (cells : List AV) : List (Nat × AV) → Option (List AV)
  | [] => some cells
  | (i, v) :: rest =>
    match place i with
    | none => none
    | some (off, size) => if v.cells.length = size ∧ off + v.cells.length ≤ cells.length then afill place (splice cells off v.cells) rest else none

inductive PRels (E : Env) : List (Nat × AV) → List (Nat × Value) → Prop
  | nil : PRels E [] []
  | cons {i : Nat} {a : AV} {v : Value} {as : List (Nat × AV)} {vs : List (Nat × Value)} (h : VRel E a v) (t : PRels E as vs) : PRels E ((i, a) :: as) ((i, v) :: vs)

theorem VRels.splice {E : Env} {cs as : List AV} {us vs : List Value} (h : VRels E cs us) (k : VRels E as vs) (o : Nat) :
    VRels E (Abs.splice cs o as) (us.take o ++ (vs ++ us.drop (o + vs.length))) := by
  unfold Abs.splice
  rw [k.length]
  exact (h.take o).append (k.append (h.drop _))

theorem foldl_setAll (vs : List Value) : ∀ (k : Nat) (c : Array Value) (off : Nat), off + k + vs.length ≤ c.size →
    ((vs.zipIdx k).foldl (fun cs (p : Value × Nat) => cs.setIfInBounds (off + p.2) p.1) c).toList = c.toList.take (off + k) ++ (vs ++ c.toList.drop (off + k + vs.length)) := by
  induction vs with
  | nil => intro k c off h; simp
  | cons v vs ih =>
    intro k c off h
    simp only [List.length_cons] at h
    simp only [List.zipIdx_cons, List.foldl_cons]
    rw [ih (k + 1) (c.setIfInBounds (off + k) v) off (by simp; omega)]
    rw [Array.toList_setIfInBounds]
    apply List.ext_getElem?
    intro j
    simp only [List.getElem?_append, List.length_take, List.length_set, Array.length_toList, List.length_cons]
    have h1 : min (off + (k + 1)) c.size = off + (k + 1) := by omega
    have h2 : min (off + k) c.size = off + k := by omega
    rw [h1, h2]
    by_cases a : j < off + k
    · rw [if_pos (by omega), if_pos a, List.getElem?_take_of_lt (by omega), List.getElem?_take_of_lt a, List.getElem?_set_ne (by omega)]
    · by_cases b : j = off + k
      · subst b
        have q1 : off + k < off + (k + 1) := by omega
        have q2 : ¬ off + k < off + k := by omega
        have q3 : off + k - (off + k) < vs.length + 1 := by omega
        have q4 : off + k < c.toList.length := by rw [Array.length_toList]; omega
        rw [if_pos q1, if_neg q2, if_pos q3, List.getElem?_take_of_lt q1, List.getElem?_set_self q4, Nat.sub_self]
        rfl
      · rw [if_neg (by omega), if_neg a]
        obtain ⟨m, rfl⟩ : ∃ m, j = off + k + 1 + m := ⟨j - (off + k + 1), by omega⟩
        rw [show off + k + 1 + m - (off + (k + 1)) = m by omega, show off + k + 1 + m - (off + k) = m + 1 by omega]
        by_cases d : m < vs.length
        · rw [if_pos d, if_pos (by omega)]; rfl
        · rw [if_neg d, if_neg (by omega), List.getElem?_drop, List.getElem?_drop, List.getElem?_set_ne (by omega)]
          congr 1; omega

theorem afill_sound {E : Env} (place : Nat → Option (Nat × Nat)) : ∀ (ps : List (Nat × AV)) (qs : List (Nat × Value)) (cs : List AV) (c : Array Value) (r : List AV),
    PRels E ps qs → VRels E cs c.toList → afill place cs ps = some r → ∃ d, Instr.fill place c qs = some d ∧ VRels E r d.toList := by
  intro ps
  induction ps with
  | nil => intro qs cs c r hp hc h; cases hp; simp [afill] at h; subst h; exact ⟨c, rfl, hc⟩
  | cons p ps ih =>
    intro qs cs c r hp hc h
    cases hp with
    | cons hv ht =>
      rename_i i a v vs
      simp only [afill] at h
      split at h
      · simp at h
      · rename_i off size hpl
        split at h
        · rename_i hb
          have hlen := hv.cells.length
          have hcl := hc.length
          simp only [Array.length_toList] at hlen hcl
          have hz : (v.cells.zipIdx.foldl (fun cs (x : Value × Nat) => cs.setIfInBounds (off + x.2) x.1) c).toList = c.toList.take off ++ (v.cells.toList ++ c.toList.drop (off + v.cells.toList.length)) := by
            have := foldl_setAll v.cells.toList 0 c off (by simp; omega)
            rw [← Array.foldl_toList, Array.toList_zipIdx]
            simpa using this
          have hrel : VRels E (splice cs off a.cells) (v.cells.zipIdx.foldl (fun cs (x : Value × Nat) => cs.setIfInBounds (off + x.2) x.1) c).toList := by
            rw [hz]; exact hc.splice hv.cells off
          obtain ⟨d, h1, h2⟩ := ih vs _ _ r ht hrel h
          refine ⟨d, ?_, h2⟩
          simp only [Instr.fill, hpl]
          rw [if_neg (by simp; omega)]
          exact h1
        · simp at h

def aplaces (P : Program) : List Field → Option (List (Nat × Nat))
  | [] => some []
  | f :: fs => match asize P f.type, aplaces P fs with
    | some n, some r => some ((f.offset, n) :: r)
    | _, _ => none

theorem aplaces_eq {P : Program} : ∀ {fs : List Field} {r : List (Nat × Nat)}, aplaces P fs = some r → fs.mapM (fun f => (P.info? f.type).map fun i => (f.offset, i.size)) = some r
  | [], r, h => by simp [aplaces] at h; subst h; rfl
  | f :: fs, r, h => by
    simp only [aplaces] at h
    split at h
    · rename_i n r' h1 h2
      simp only [Option.some.injEq] at h; subst h
      simp only [asize, Option.map_eq_some_iff] at h1
      obtain ⟨i, hi, rfl⟩ := h1
      simp [List.mapM_cons, hi, aplaces_eq h2]
    · simp at h

def abuild (P : Program) (t : TypeId) (parts : List (Nat × AV)) : Option AV :=
  match azero P t with
  | none => none
  | some z => match P.underlying t with
    | some (.struct fs) => match aplaces P fs.toList with
      | some pl => (afill (fun i => pl[i]?) z.cells parts).map .agg
      | none => none
    | some (.array _ e) => match asize P e with
      | some n => (afill (fun i => some (i * n, n)) z.cells parts).map .agg
      | none => none
    | _ => none

theorem abuild_sound {P : Program} {E : Env} {t : TypeId} {ps : List (Nat × AV)} {qs : Array (Nat × Value)} {r : AV} (h : abuild P t ps = some r) (hp : PRels E ps qs.toList) : Yields P E (Instr.build t qs) r := by
  unfold abuild at h
  split at h
  · simp at h
  · rename_i z hz
    obtain ⟨zv, hzr, hzrun⟩ := run_azero E hz
    split at h
    · rename_i fs ht
      split at h
      · rename_i pl hpl
        simp only [Option.map_eq_some_iff] at h
        obtain ⟨cs, h1, rfl⟩ := h
        obtain ⟨d, h2, h3⟩ := afill_sound _ _ _ _ _ _ hp hzr.cells h1
        refine ⟨.agg d, .agg h3, fun w => ?_⟩
        have hpr := run_places (P := P) w fs.toList pl (aplaces_eq hpl)
        have hm : (fs.mapM (m := Sem) fun f => do pure (f.offset, ← sizeOf f.type)).run P w = .ok pl.toArray w := by
          rw [Array.mapM_eq_mapM_toList, Sem.run_map]
          simp only [bind_pure_comp]
          rw [hpr]; rfl
        have hfn : (fun i : Nat => pl.toArray[i]?) = (fun i : Nat => pl[i]?) := by funext i; simp
        have h2' : Instr.fill (fun i : Nat => pl.toArray[i]?) zv.cells qs.toList = some d := by rw [hfn]; exact h2
        simp only [Instr.build, Sem.run_bind, hzrun, Result.andThen_ok, run_underlying ht, hm, h2', Sem.run_pure]
      · simp at h
    · rename_i m e ht
      split at h
      · rename_i n hn
        simp only [Option.map_eq_some_iff] at h
        obtain ⟨cs, h1, rfl⟩ := h
        obtain ⟨d, h2, h3⟩ := afill_sound _ _ _ _ _ _ hp hzr.cells h1
        refine ⟨.agg d, .agg h3, fun w => ?_⟩
        simp only [Instr.build, Sem.run_bind, hzrun, Result.andThen_ok, run_underlying ht, run_asize hn, h2, Sem.run_pure]
      · simp at h
    · simp at h

def aextract (x : AV) (n : Nat) : Option AV := match x with
  | .tuple vs => vs[n]?
  | _ => none

theorem aextract_sound {P : Program} {E : Env} {x r : AV} {n : Nat} {u : Value} (h : aextract x n = some r) (hx : VRel E x u) : Yields P E (Instr.extract u n) r := by
  unfold aextract at h
  split at h
  · cases hx with | tuple hv =>
    obtain ⟨v, h1, h2⟩ := hv.get? h
    rw [Array.getElem?_toList] at h1
    exact ⟨v, h2, fun w => by simp [Instr.extract, h1]⟩
  · simp at h

def alen (P : Program) (t : TypeId) (x : AV) : Option AV := match P.underlying t, x with
  | some .string, .str s => some (.int .i64 s.length)
  | some (.slice _), .nilsl => some (.int .i64 0)
  | some (.slice _), .sl _ _ _ len _ _ => some (.int .i64 len)
  | some (.slice _), .vsl _ len => some (.int .i64 len)
  | some (.array n _), _ => some (.int .i64 n)
  | some (.map _ _), .nilmap => some (.int .i64 0)
  | _, _ => none

theorem alen_sound {P : Program} {E : Env} {t ty : TypeId} {x r : AV} {u : Value} (h : alen P t x = some r) (hx : VRel E x u) : Yields P E (Builtin.len_ #[t] ty #[u]) r := by
  unfold alen at h
  split at h
  · rename_i ht; simp only [Option.some.injEq] at h; subst h; cases hx
    exact ⟨_, .int _ _, fun w => by rw [run_len_string w _ _ _ ht]; rfl⟩
  · rename_i ht; simp only [Option.some.injEq] at h; subst h; cases hx <;>
    exact ⟨_, .int _ _, fun w => by simp [Builtin.len_, run_underlying ht, goInt]⟩
  · rename_i ht; simp only [Option.some.injEq] at h; subst h; cases hx <;>
    exact ⟨_, .int _ _, fun w => by simp [Builtin.len_, run_underlying ht, goInt]⟩
  · rename_i ht; simp only [Option.some.injEq] at h; subst h; cases hx <;>
    exact ⟨_, .int _ _, fun w => by simp [Builtin.len_, run_underlying ht, goInt]⟩
  · rename_i ht; simp only [Option.some.injEq] at h; subst h
    exact ⟨_, .int _ _, fun w => by simp [Builtin.len_, run_underlying ht, goInt]⟩
  · rename_i ht; simp only [Option.some.injEq] at h; subst h; cases hx <;>
    exact ⟨_, .int _ _, fun w => by simp [Builtin.len_, run_underlying ht, goInt]⟩
  · simp at h

def acap (P : Program) (t : TypeId) (x : AV) : Option AV := match P.underlying t, x with
  | some (.slice _), .nilsl => some (.int .i64 0)
  | some (.slice _), .sl _ _ _ _ cap false => some (.int .i64 cap)
  | some (.array n _), _ => some (.int .i64 n)
  | _, _ => none

theorem acap_sound {P : Program} {E : Env} {t ty : TypeId} {x r : AV} {u : Value} (h : acap P t x = some r) (hx : VRel E x u) : Yields P E (Builtin.cap_ #[t] ty #[u]) r := by
  unfold acap at h
  split at h
  · rename_i ht; simp only [Option.some.injEq] at h; subst h; cases hx
    exact ⟨_, .int _ _, fun w => by simp [Builtin.cap_, run_underlying ht, goInt]⟩
  · rename_i ht; simp only [Option.some.injEq] at h; subst h; cases hx with | sl a b c d e =>
    have := d rfl; subst this
    exact ⟨_, .int _ _, fun w => by simp [Builtin.cap_, run_underlying ht, goInt]⟩
  · rename_i ht; simp only [Option.some.injEq] at h; subst h
    exact ⟨_, .int _ _, fun w => by simp [Builtin.cap_, run_underlying ht, goInt]⟩
  · simp at h

def amin : AV → List AV → Option AV
  | a, [] => some a
  | .int k x, .int k' y :: r => if k = k' then amin (.int k (if y < x then y else x)) r else none
  | _, _ => none
def amax : AV → List AV → Option AV
  | a, [] => some a
  | .int k x, .int k' y :: r => if k = k' then amax (.int k (if y > x then y else x)) r else none
  | _, _ => none

theorem amin_sound {P : Program} {E : Env} : ∀ (as : List AV) (vs : List Value) (a r : AV) (v : Value), amin a as = some r → VRel E a v → VRels E as vs → ∃ u, VRel E r u ∧ ∀ w, (vs.foldlM Builtin.min2 v).run P w = .ok u w
  | [], _, a, r, v, h, hv, hs => by cases hs; simp [amin] at h; subst h; exact ⟨v, hv, fun w => rfl⟩
  | b :: as, _, a, r, v, h, hv, hs => by
    cases hs with | cons hb ht =>
    unfold amin at h
    split at h
    · rename_i h1; simp at h1
    · rename_i k x k' y rest h1
      simp only [List.cons.injEq] at h1
      obtain ⟨rfl, rfl⟩ := h1
      split at h
      · rename_i hk
        subst hk
        cases hv; cases hb
        obtain ⟨u, g1, g2⟩ := amin_sound (P := P) _ _ _ r _ h (.int _ _) ht
        exact ⟨u, g1, fun w => by simpa [List.foldlM_cons, Builtin.min2] using g2 w⟩
      · simp at h
    · simp at h

theorem amax_sound {P : Program} {E : Env} : ∀ (as : List AV) (vs : List Value) (a r : AV) (v : Value), amax a as = some r → VRel E a v → VRels E as vs → ∃ u, VRel E r u ∧ ∀ w, (vs.foldlM Builtin.max2 v).run P w = .ok u w
  | [], _, a, r, v, h, hv, hs => by cases hs; simp [amax] at h; subst h; exact ⟨v, hv, fun w => rfl⟩
  | b :: as, _, a, r, v, h, hv, hs => by
    cases hs with | cons hb ht =>
    unfold amax at h
    split at h
    · rename_i h1; simp at h1
    · rename_i k x k' y rest h1
      simp only [List.cons.injEq] at h1
      obtain ⟨rfl, rfl⟩ := h1
      split at h
      · rename_i hk
        subst hk
        cases hv; cases hb
        obtain ⟨u, g1, g2⟩ := amax_sound (P := P) _ _ _ r _ h (.int _ _) ht
        exact ⟨u, g1, fun w => by simpa [List.foldlM_cons, Builtin.max2] using g2 w⟩
      · simp at h
    · simp at h

/-! ### operands -/

def aval (G : Nat → Option AV) (T : Nat → AV) : Operand → Option AV
  | .tmp t => some (T t)
  | .const v => ofConst v
  | .global g => G g
  | .func f => some (.func (.func f) [] [])

def avals (ρ : Operand → Option AV) : List Operand → Option (List AV)
  | [] => some []
  | x :: xs => match ρ x, avals ρ xs with
    | some a, some as => some (a :: as)
    | _, _ => none

def apairs (ρ : Operand → Option AV) : List (Nat × Operand) → Option (List (Nat × AV))
  | [] => some []
  | (i, x) :: xs => match ρ x, apairs ρ xs with
    | some a, some as => some ((i, a) :: as)
    | _, _ => none

def Operands (E : Env) (ρ : Operand → Option AV) (σ : Operand → Value) (xs : List Operand) : Prop := ∀ x ∈ xs, ∀ a, ρ x = some a → VRel E a (σ x)

theorem avals_sound {E : Env} {ρ : Operand → Option AV} {σ : Operand → Value} : ∀ {xs : List Operand} {as : List AV}, Operands E ρ σ xs → avals ρ xs = some as → VRels E as (xs.map σ)
  | [], as, _, h => by simp [avals] at h; subst h; exact .nil
  | x :: xs, as, hr, h => by
    simp only [avals] at h
    split at h
    · rename_i a as' h1 h2
      simp only [Option.some.injEq] at h; subst h
      exact .cons (hr x (by simp) a h1) (avals_sound (fun y hy => hr y (by simp [hy])) h2)
    · simp at h

theorem apairs_sound {E : Env} {ρ : Operand → Option AV} {σ : Operand → Value} : ∀ {xs : List (Nat × Operand)} {as : List (Nat × AV)}, Operands E ρ σ (xs.map (·.2)) → apairs ρ xs = some as → PRels E as (xs.map fun (i, x) => (i, σ x))
  | [], as, _, h => by simp [apairs] at h; subst h; exact .nil
  | (i, x) :: xs, as, hr, h => by
    simp only [apairs] at h
    split at h
    · rename_i a as' h1 h2
      simp only [Option.some.injEq] at h; subst h
      exact .cons (hr x (by simp) a h1) (apairs_sound (fun y hy => hr y (by simp at hy ⊢; exact .inr hy)) h2)
    · simp at h

def aopt (ρ : Operand → Option AV) : Option Operand → Option (Option AV)
  | none => some none
  | some x => (ρ x).map some

theorem aopt_sound {E : Env} {ρ : Operand → Option AV} {σ : Operand → Value} {x : Option Operand} {a : Option AV} (hr : Operands E ρ σ x.toList) (h : aopt ρ x = some a) : ORels E a (x.map σ) := by
  cases x with
  | none => simp [aopt] at h; subst h; exact .none
  | some x =>
    simp only [aopt, Option.map_eq_some_iff] at h
    obtain ⟨b, h1, rfl⟩ := h
    exact .some (hr x (by simp) b h1)

def apure (P : Program) (ρ : Operand → Option AV) (o : Oper) : Option AV :=
  match o.op with
  | .move x | .assign x => ρ x
  | .pick c a b => match ρ c with
    | some (.bool true) => ρ a
    | some (.bool false) => ρ b
    | _ => none
  | .nilCheck x => match ρ x with
    | some (.ptr i o) => some (.ptr i o)
    | some (.vptr cs) => some (.vptr cs)
    | some (.func (.func f) a c) => some (.func (.func f) a c)
    | _ => none
  | .binOp op t x y _ => match ρ x, ρ y with
    | some a, some b => abin P op t x y a b
    | _, _ => none
  | .unOp op _ x => match ρ x with
    | some a => aun op a
    | none => none
  | .convert s d x => match ρ x with
    | some a => aconv P s d a
    | none => none
  | .makeInterface t x => match ρ x, P.concrete t with
    | some a, true => some (.iface t a)
    | _, _ => none
  | .makeFunc fn f c => match avals ρ f.toList, avals ρ c.toList with
    | some fs, some cs => some (.func fn fs cs)
    | _, _ => none
  | .slice t x lo hi mx => match ρ x, aopt ρ lo, aopt ρ hi, aopt ρ mx with
    | some a, some l, some h, some m => match P.underlying t with
      | some (.array _ _) => none
      | _ => aslice P t a l h m
    | _, _, _, _ => none
  | .fieldAddr t x f => match ρ x with
    | some a => afieldAddr P t a f
    | none => none
  | .field t x f => match ρ x with
    | some a => afield P t a f
    | none => none
  | .indexAddr t x ix => match ρ x, ρ ix with
    | some a, some b => aindexAddr P t a b
    | _, _ => none
  | .index t x ix => match ρ x, ρ ix with
    | some a, some b => aindex P t a b
    | _, _ => none
  | .extract x n => match ρ x with
    | some a => aextract a n
    | none => none
  | .build t ps => match apairs ρ ps.toList with
    | some qs => abuild P t qs
    | none => none
  | .call c => match c.callee, c.args.toList with
    | .builtin .len, [x] => match ρ x, c.argTypes with
      | some a, ⟨[t]⟩ => alen P t a
      | _, _ => none
    | .builtin .cap, [x] => match ρ x, c.argTypes with
      | some a, ⟨[t]⟩ => acap P t a
      | _, _ => none
    | .builtin .min, xs => match avals ρ xs with
      | some (a :: as) => amin a as
      | _ => none
    | .builtin .max, xs => match avals ρ xs with
      | some (a :: as) => amax a as
      | _ => none
    | _, _ => none
  | _ => none

def Gives (P : Program) (E : Env) (σ : Operand → Value) (o : Oper) (r : AV) : Prop := ∃ v, VRel E r v ∧ ∀ w, (execOp σ o).run P w = .ok (.value v) w

theorem Gives.of {P : Program} {E : Env} {σ : Operand → Value} {o : Oper} {r : AV} {s : Sem Value} (h : Yields P E s r) (e : execOp σ o = (do pure (.value (← s)))) : Gives P E σ o r := by
  obtain ⟨v, h1, h2⟩ := h
  exact ⟨v, h1, fun w => by rw [e]; simp [h2 w]⟩

theorem apure_sound {P : Program} {E : Env} {ρ : Operand → Option AV} {σ : Operand → Value} {o : Oper} {r : AV} (hr : Operands E ρ σ o.op.operands.toList) (h : apure P ρ o = some r) : Gives P E σ o r := by
  obtain ⟨dst, op, ty, pos, after, guard⟩ := o
  cases op <;> simp only [apure] at h <;> simp only [Op.operands] at hr <;> try (simp at h; done)
  case move x => exact ⟨σ x, hr x (by simp) r h, fun w => rfl⟩
  case assign x => exact ⟨σ x, hr x (by simp) r h, fun w => rfl⟩
  case pick c a b =>
    split at h <;> try (simp at h; done)
    · rename_i hc
      have := hr c (by simp) _ hc
      refine ⟨σ a, hr a (by simp) r h, fun w => ?_⟩
      cases hcv : σ c <;> rw [hcv] at this <;> cases this
      simp [execOp, hcv, asBool]
    · rename_i hc
      have := hr c (by simp) _ hc
      refine ⟨σ b, hr b (by simp) r h, fun w => ?_⟩
      cases hcv : σ c <;> rw [hcv] at this <;> cases this
      simp [execOp, hcv, asBool]
  case nilCheck x =>
    split at h <;> try (simp at h; done)
    all_goals
      rename_i hx
      have hv := hr x (by simp) _ hx
      simp only [Option.some.injEq] at h; subst h
      refine ⟨σ x, hv, fun w => ?_⟩
      generalize hs : σ x = sx at hv
      cases hv
      simp [execOp, hs]
  case binOp bop t x y yt =>
    split at h <;> try (simp at h; done)
    rename_i a b ha hb
    exact .of (abin_sound h (hr x (by simp) _ ha) (hr y (by simp) _ hb)) rfl
  case unOp uop t x =>
    split at h <;> try (simp at h; done)
    rename_i a ha
    exact .of (aun_sound h (hr x (by simp) _ ha)) rfl
  case convert s d x =>
    split at h <;> try (simp at h; done)
    rename_i a ha
    exact .of (aconv_sound h (hr x (by simp) _ ha)) rfl
  case makeInterface t x =>
    split at h <;> try (simp at h; done)
    rename_i a ha hc
    simp only [Option.some.injEq] at h; subst h
    exact .of ⟨_, .iface (hr x (by simp) _ ha), fun w => run_makeInterface w t _ hc⟩ rfl
  case makeFunc fn f c =>
    split at h <;> try (simp at h; done)
    rename_i fs cs hf hc
    simp only [Option.some.injEq] at h; subst h
    refine .of ⟨.func fn (f.map σ) (c.map σ), .func ?_ ?_, fun w => rfl⟩ rfl
    · have := avals_sound (E := E) (σ := σ) (fun x hx => hr x (by simp at hx ⊢; exact .inl hx)) hf
      simpa using this
    · have := avals_sound (E := E) (σ := σ) (fun x hx => hr x (by simp at hx ⊢; exact .inr hx)) hc
      simpa using this
  case slice t x lo hi mx =>
    split at h <;> try (simp at h; done)
    rename_i a l hh m ha hl hhh hm
    have hn : ∀ n e, P.underlying t ≠ some (.array n e) := fun n e he => by rw [he] at h; simp at h
    have h' : aslice P t a l hh m = some r := by
      split at h
      · simp at h
      · exact h
    obtain ⟨v, h1, h2⟩ := aslice_sound h' (hr x (by simp) _ ha) (aopt_sound (σ := σ) (fun y hy => hr y (by simp at hy ⊢; simp [hy])) hl)
      (aopt_sound (σ := σ) (fun y hy => hr y (by simp at hy ⊢; simp [hy])) hhh) (aopt_sound (σ := σ) (fun y hy => hr y (by simp at hy ⊢; simp [hy])) hm)
    refine .of ⟨v, h1, fun w => ?_⟩ rfl
    have e1 : (Instr.sliceAt t (σ x) (lo.map σ) (hi.map σ) (mx.map σ)).run P w = (Instr.slice t (σ x) (lo.map σ) (hi.map σ) (mx.map σ)).run P w := by
      cases hu : P.underlying t with
      | none => simp [aslice, hu] at h'
      | some d =>
        simp only [Instr.sliceAt, Sem.run_bind, run_underlying hu, Result.andThen_ok]
        cases d <;> first | rfl | exact absurd hu (hn _ _)
    rw [e1]; exact h2 w
  case fieldAddr t x f =>
    split at h <;> try (simp at h; done)
    rename_i a ha
    exact .of (afieldAddr_sound h (hr x (by simp) _ ha)) rfl
  case field t x f =>
    split at h <;> try (simp at h; done)
    rename_i a ha
    exact .of (afield_sound h (hr x (by simp) _ ha)) rfl
  case indexAddr t x ix =>
    split at h <;> try (simp at h; done)
    rename_i a b ha hb
    exact .of (aindexAddr_sound h (hr x (by simp) _ ha) (hr ix (by simp) _ hb)) rfl
  case index t x ix =>
    split at h <;> try (simp at h; done)
    rename_i a b ha hb
    exact .of (aindex_sound h (hr x (by simp) _ ha) (hr ix (by simp) _ hb)) rfl
  case extract x n =>
    split at h <;> try (simp at h; done)
    rename_i a ha
    exact .of (aextract_sound h (hr x (by simp) _ ha)) rfl
  case build t ps =>
    split at h <;> try (simp at h; done)
    rename_i qs hq
    have hp := apairs_sound (E := E) (σ := σ) (fun x hx => hr x (by exact hx)) hq
    exact .of (abuild_sound (qs := ps.map fun (i, x) => (i, σ x)) h (by simpa using hp)) rfl
  case call c =>
    obtain ⟨callee, args, argTypes⟩ := c
    have harg : ∀ x ∈ args.toList, x ∈ (Call.operands { callee, args, argTypes }).toList := fun x hx => by
      simp only [Call.operands, Array.toList_append, List.mem_append]; exact .inr hx
    simp only at h
    split at h
    · rename_i x hx
      split at h <;> try (simp at h; done)
      rename_i a t ha
      have hargs : args = #[x] := by cases args; simp_all
      subst hargs
      exact .of (s := Builtin.len_ #[t] ty (#[x].map σ)) (by rw [List.map_toArray]; exact alen_sound (ty := ty) h (hr x (harg x (by simp)) _ ha)) rfl
    · rename_i x hx
      split at h <;> try (simp at h; done)
      rename_i a t ha
      have hargs : args = #[x] := by cases args; simp_all
      subst hargs
      exact .of (s := Builtin.cap_ #[t] ty (#[x].map σ)) (by rw [List.map_toArray]; exact acap_sound (ty := ty) h (hr x (harg x (by simp)) _ ha)) rfl
    · split at h <;> try (simp at h; done)
      rename_i a as ha
      have hv := avals_sound (E := E) (σ := σ) (fun y hy => hr y (harg y hy)) ha
      cases hm : args.toList.map σ with
      | nil => rw [hm] at hv; cases hv
      | cons v vs =>
        rw [hm] at hv
        cases hv with | cons h1 h2 =>
        obtain ⟨u, g1, g2⟩ := amin_sound (P := P) _ _ _ r _ h h1 h2
        refine .of (s := Builtin.min_ argTypes ty (args.map σ)) ⟨u, g1, fun w => ?_⟩ rfl
        simp only [Builtin.min_, Array.toList_map, hm]
        exact g2 w
    · split at h <;> try (simp at h; done)
      rename_i a as ha
      have hv := avals_sound (E := E) (σ := σ) (fun y hy => hr y (harg y hy)) ha
      cases hm : args.toList.map σ with
      | nil => rw [hm] at hv; cases hv
      | cons v vs =>
        rw [hm] at hv
        cases hv with | cons h1 h2 =>
        obtain ⟨u, g1, g2⟩ := amax_sound (P := P) _ _ _ r _ h h1 h2
        refine .of (s := Builtin.max_ argTypes ty (args.map σ)) ⟨u, g1, fun w => ?_⟩ rfl
        simp only [Builtin.max_, Array.toList_map, hm]
        exact g2 w
    · simp at h

end Go.Abs
