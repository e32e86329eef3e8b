/-
  A simplified meaning for Go code, fifteenth part: a region that draws its order (second half).
-/
import Derived.Test.YtcbiaeoladjecaaAbsN
namespace Go.Abs
open Go

inductive Kind where
  | idle
  | read
  | alloc (cs : List AV)
  | eff

def Kind.isEff : Kind → Bool
  | .eff => true
  | _ => false
def Kind.isAlloc : Kind → Bool
  | .alloc _ => true
  | _ => false

def Step (P : Program) (G : Nat → Option AV) (ops : Array Oper) (o : Oper) (T : Nat → AV) (H : AHeap) (v : AV) (k : Kind) (H' : AHeap) : Prop :=
  match k with
  | .idle => ((awanted ops T o = false ∧ v = undefA) ∨ (awanted ops T o = true ∧ apure P (aval G T) o = some v)) ∧ H' = H
  | .read => awanted ops T o = true ∧ aread P (aval G T) H.get o = some v ∧ H' = H
  | .alloc cs => awanted ops T o = true ∧ ∃ f, aalloc P (aval G T) o = some (cs, f) ∧ v = f H.next ∧ H' = H.push (.cells cs)
  | .eff => awanted ops T o = true ∧ ((∃ e, aeff P (aval G T) H.get H.next o = some (v, e) ∧ H' = H.eff e) ∨ ∃ f args, acallee (aval G T) o = some (f, args) ∧ Does P G f args H fun r h => r = v ∧ h = H')

/-- i must come ahead of j. -/
inductive Reach (ops : Array Oper) : Nat → Nat → Prop
  | edge {i j : Nat} {o : Oper} {e : Edge} (ho : ops[j]? = some o) (he : e ∈ o.after) (hb : Region.binds .any e = true) (hi : e.on = i) : Reach ops i j
  | trans {i j k : Nat} (h : Reach ops i j) (g : Reach ops j k) : Reach ops i k

structure Run (P : Program) (G : Nat → Option AV) (N : Nat) (ops : Array Oper) where
  T : Nat → Nat → AV
  H : Nat → AHeap
  v : Nat → AV
  k : Nat → Kind
  step : ∀ i o, ops[i]? = some o → Step P G ops o (T i) (H i) (v i) (k i) (H (i + 1))
  put : ∀ i o, ops[i]? = some o → T (i + 1) = tput (T i) o.dst (v i)
  dst : ∀ (i : Nat) o, ops[i]? = some o → ∀ d, o.dst = some d → d < N
  mono : ∀ i, i < ops.size → (H i).next ≤ (H (i + 1)).next
  /-- edges lead back -/
  back : ∀ i o, ops[i]? = some o → ∀ e ∈ o.after, Region.binds .any e = true → e.on < i
  /-- whatever touches one slot is in order -/
  slots : ∀ i j o q, i < j → ops[i]? = some o → ops[j]? = some q → (o.apart ops q = false) → Reach ops i j
  /-- what writes is in order; what lays a block comes behind what it is not ordered with -/
  effs : ∀ i j, i < j → j < ops.size → (k j).isEff = true → ((k i).isEff = true ∨ (k i).isAlloc = true) → Reach ops i j
  /-- a read gives the same wherever it may stand -/
  reads : ∀ r o, ops[r]? = some o → k r = .read → ∀ q, q ≤ ops.size → (q = 0 ∨ ∃ e, q = e + 1 ∧ (k e).isEff = true) → (∀ e, e < q → (k e).isEff = true → ¬ Reach ops r e) → (∀ e, q ≤ e → e < ops.size → (k e).isEff = true → ¬ Reach ops e r) →
    aread P (aval G (T r)) (H q).get o = some (v r)

section
variable {P : Program} {G : Nat → Option AV} {N : Nat} {ops : Array Oper}

theorem get_lt {i : Nat} {o : Oper} (h : ops[i]? = some o) : i < ops.size := by
  rcases Nat.lt_or_ge i ops.size with q | q
  · exact q
  · rw [Array.getElem?_eq_none q] at h; simp at h

theorem get_of {i : Nat} (h : i < ops.size) : ∃ o, ops[i]? = some o := ⟨ops[i], Array.getElem?_eq_getElem h⟩

/-- The run in the text's order can be gone in the model. -/
theorem Run.real (R : Run P G N ops) {E : Env} {w : World} {a : Act} (hG : GRel E G) (hR : Rel E (R.H 0) w) (hT : TRel E N (R.T 0) a.tmps) : ∀ i, i ≤ ops.size → ∃ (E' : Env) (w' : World) (a' : Act), Ext E E' ∧ Rel E' (R.H i) w' ∧ TRel E' N (R.T i) a'.tmps
  | 0, _ => ⟨E, w, a, Ext.refl E, hR, hT⟩
  | i + 1, hi => by
    obtain ⟨E1, w1, a1, hx, hR1, hT1⟩ := R.real hG hR hT i (by omega)
    obtain ⟨o, ho⟩ := get_of (ops := ops) (i := i) (by omega)
    have hs := R.step i o ho
    rw [R.put i o ho]
    have hd := R.dst i o ho
    have hops := hT1.operands (hG.mono hx.knows) o.op.operands.toList
    have fin : ∀ E2 w2 u, Ext E1 E2 → VRel E2 (R.v i) u → Rel E2 (R.H (i + 1)) w2 → ∃ (E' : Env) (w' : World) (a' : Act), Ext E E' ∧ Rel E' (R.H (i + 1)) w' ∧ TRel E' N (tput (R.T i) o.dst (R.v i)) a'.tmps := fun E2 w2 u h1 h2 h3 =>
      ⟨E2, w2, a1.put o.dst u, hx.trans h1, h3, (hT1.mono h1.knows).put o.dst h2 hd⟩
    generalize hk : R.k i = k at hs
    cases k with
    | idle =>
      obtain ⟨h1, h2⟩ := hs
      rcases h1 with ⟨_, h1⟩ | ⟨_, h1⟩
      · exact fin E1 w1 undef (Ext.refl _) (by rw [h1]; exact undef_rel _) (by rw [h2]; exact hR1)
      · obtain ⟨u, g1, _⟩ := apure_sound (P := P) hops h1
        exact fin E1 w1 u (Ext.refl _) g1 (by rw [h2]; exact hR1)
    | read =>
      obtain ⟨_, h1, h2⟩ := hs
      obtain ⟨u, g1, _⟩ := aread_sound hR1 hops h1
      exact fin E1 w1 u (Ext.refl _) g1 (by rw [h2]; exact hR1)
    | alloc cs =>
      obtain ⟨_, f, h1, h2, h3⟩ := hs
      obtain ⟨E2, u, w2, g1, g2, g3, _⟩ := OpRes.ofLays hR1 (aalloc_sound hops h1)
      exact fin E2 w2 u g1 (by rw [h2]; exact g2) (by rw [h3]; exact g3)
    | eff =>
      obtain ⟨hw, h⟩ := hs
      clear hw
      rcases h with ⟨e, h1, h2⟩ | ⟨f, args, h1, h2⟩
      · obtain ⟨E2, u, w2, g1, g2, g3, _⟩ := aeff_sound hR1 hops h1
        exact fin E2 w2 u g1 g2 (by rw [h2]; exact g3)
      · have hargs : ∃ vs, VRels E1 args vs := by
          obtain ⟨dst, op, ty, pos, after, guard⟩ := o
          unfold acallee at h1
          cases op <;> simp only at h1 <;> try (simp at h1; done)
          rename_i c
          obtain ⟨callee, cargs, argTypes⟩ := c
          cases callee <;> simp only at h1 <;> try (simp at h1; done)
          rename_i fo
          split at h1 <;> try (simp at h1; done)
          rename_i k first captured as hf has
          simp only [Option.some.injEq, Prod.mk.injEq] at h1
          obtain ⟨rfl, rfl⟩ := h1
          have hops' := hT1.operands (hG.mono hx.knows) (fo :: cargs.toList)
          have hfv := hops' fo (by simp) _ hf
          have hargs := avals_sound (E := E1) (σ := a1.eval) (fun x hx => hops' x (by simp [hx])) has
          generalize a1.eval fo = fv at hfv
          cases hfv with | func hf1 hc1 =>
          exact ⟨_, (hf1.append hargs).append hc1⟩
        obtain ⟨vs, hvs⟩ := hargs
        rcases h2.run E1 w1 vs hR1 (hG.mono hx.knows) hvs with ⟨_, hc⟩ | ⟨u, w2, _, r, H', E2, ⟨rfl, rfl⟩, g2, g3, g4⟩
        · obtain ⟨e, w2, fr, ⟨u, _, r, H', E2, ⟨rfl, rfl⟩, g2, g3, g4⟩, _⟩ := hc []
          exact fin E2 w2 u g2 g3 g4
        · exact fin E2 w2 u g2 g3 g4

theorem Run.mono_le (R : Run P G N ops) {i : Nat} : ∀ j, i ≤ j → j ≤ ops.size → (R.H i).next ≤ (R.H j).next
  | 0, h, _ => by have : i = 0 := by omega
                  subst this; exact Nat.le_refl _
  | j + 1, h, hj => by
    by_cases e : i = j + 1
    · subst e; exact Nat.le_refl _
    · exact Nat.le_trans (R.mono_le j (by omega) (by omega)) (R.mono j (by omega))

theorem Run.alloc_next (R : Run P G N ops) {a : Nat} {cs : List AV} (ha : a < ops.size) (hk : R.k a = .alloc cs) : R.H (a + 1) = (R.H a).push (.cells cs) := by
  obtain ⟨o, ho⟩ := get_of (ops := ops) ha
  have hs := R.step a o ho
  rw [hk] at hs
  obtain ⟨_, f, _, _, h⟩ := hs
  exact h

theorem Run.alloc_lt (R : Run P G N ops) {a b : Nat} {cs : List AV} (hab : a < b) (hb : b ≤ ops.size) (hk : R.k a = .alloc cs) : (R.H a).next < (R.H b).next := by
  have h1 := R.mono_le (i := a + 1) b (by omega) hb
  rw [R.alloc_next (by omega) hk] at h1
  exact h1

/-- What the slots hold when the operations of l are done. -/
def Run.TS (R : Run P G N ops) (l : Nat → Bool) : Nat → Nat → AV
  | 0 => R.T 0
  | k + 1 => match ops[k]? with
    | some o => if l k then tput (R.TS l k) o.dst (R.v k) else R.TS l k
    | none => R.TS l k

/-- The blocks that operations of l from q on have laid. -/
def Run.ex (R : Run P G N ops) (l : Nat → Bool) (q : Nat) : Nat → Nat → Option AObj
  | 0, _ => none
  | k + 1, i => match R.k k with
    | .alloc cs => if l k = true ∧ q ≤ k ∧ i = (R.H k).next then some (.cells cs) else R.ex l q k i
    | _ => R.ex l q k i

theorem Run.ex_some (R : Run P G N ops) {l : Nat → Bool} {q : Nat} : ∀ {k i : Nat} {x : AObj}, R.ex l q k i = some x → ∃ a cs, a < k ∧ R.k a = .alloc cs ∧ l a = true ∧ q ≤ a ∧ i = (R.H a).next ∧ x = .cells cs
  | 0, i, x, h => by simp [Run.ex] at h
  | k + 1, i, x, h => by
    simp only [Run.ex] at h
    split at h
    · rename_i cs hk
      split at h
      · rename_i hc
        simp only [Option.some.injEq] at h
        exact ⟨k, cs, by omega, hk, hc.1, hc.2.1, hc.2.2, h.symm⟩
      · obtain ⟨a, cs', h1, rest⟩ := R.ex_some h
        exact ⟨a, cs', by omega, rest⟩
    · obtain ⟨a, cs', h1, rest⟩ := R.ex_some h
      exact ⟨a, cs', by omega, rest⟩

theorem Run.ex_of (R : Run P G N ops) {l : Nat → Bool} {q : Nat} : ∀ {k a : Nat} {cs : List AV}, k ≤ ops.size → a < k → R.k a = .alloc cs → l a = true → q ≤ a → R.ex l q k (R.H a).next = some (.cells cs)
  | 0, a, cs, _, h, _, _, _ => by omega
  | k + 1, a, cs, hk, h, ha, hl, hq => by
    simp only [Run.ex]
    by_cases e : a = k
    · subst e
      rw [ha]
      simp [hl, hq]
    · have ih := R.ex_of (l := l) (q := q) (k := k) (by omega) (by omega) ha hl hq
      split
      · rename_i cs' hk'
        rw [if_neg]
        · exact ih
        · rintro ⟨_, _, e'⟩
          have := R.alloc_lt (a := a) (b := k) (by omega) (by omega) ha
          omega
      · exact ih

/-- Two lists of what is done that agree on what lays blocks from q on. -/
theorem Run.ex_congr (R : Run P G N ops) {l l' : Nat → Bool} {q q' : Nat} : ∀ (k : Nat), (∀ a cs, a < k → R.k a = .alloc cs → ((l a = true ∧ q ≤ a) ↔ (l' a = true ∧ q' ≤ a))) → ∀ i, R.ex l q k i = R.ex l' q' k i
  | 0, _, _ => rfl
  | k + 1, h, i => by
    have ih := R.ex_congr k (fun a cs ha => h a cs (by omega)) i
    simp only [Run.ex]
    split
    · rename_i cs hk
      have := h k cs (by omega) hk
      by_cases c : l k = true ∧ q ≤ k
      · have c' := this.1 c
        by_cases e : i = (R.H k).next
        · rw [if_pos ⟨c.1, c.2, e⟩, if_pos ⟨c'.1, c'.2, e⟩]
        · rw [if_neg (fun x => e x.2.2), if_neg (fun x => e x.2.2)]; exact ih
      · have c' := fun x => c (this.2 x)
        rw [if_neg (fun x => c ⟨x.1, x.2.1⟩), if_neg (fun x => c' ⟨x.1, x.2.1⟩)]; exact ih
    · exact ih

def Run.X (R : Run P G N ops) (l : Nat → Bool) (q : Nat) : AHeap := { next := (R.H ops.size).next, get := R.ex l q ops.size }
def Run.HS (R : Run P G N ops) (l : Nat → Bool) (q : Nat) : AHeap := (R.H q).over (R.X l q)

theorem AHeap.ext' {A B : AHeap} (h1 : A.next = B.next) (h2 : ∀ i, A.get i = B.get i) : A = B := by
  cases A; cases B
  simp only at h1
  subst h1
  have : (_ : Nat → Option AObj) = _ := funext h2
  simp only at this
  rw [this]

/-- Where nothing writes between q and m, and all that lays a block there is done. -/
theorem Run.HS_eq (R : Run P G N ops) {l : Nat → Bool} {q : Nat} : ∀ m, q ≤ m → m ≤ ops.size → (∀ j, q ≤ j → j < m → (R.k j).isEff = false) → (∀ j, q ≤ j → j < m → (R.k j).isAlloc = true → l j = true) → R.HS l q = R.HS l m
  | 0, h, _, _, _ => by have : q = 0 := by omega
                        subst this; rfl
  | m + 1, h, hm, he, hl => by
    by_cases e : q = m + 1
    · subst e; rfl
    · have ih := R.HS_eq m (by omega) (by omega) (fun j a b => he j a (by omega)) (fun j a b => hl j a (by omega))
      rw [ih]
      have hne := he m (by omega) (by omega)
      obtain ⟨o, ho⟩ := get_of (ops := ops) (i := m) (by omega)
      have hs := R.step m o ho
      generalize hk : R.k m = k at hs hne
      have same : (∀ cs, k ≠ .alloc cs) → R.H (m + 1) = R.H m → R.HS l m = R.HS l (m + 1) := fun hna hH => by
        unfold Run.HS Run.X
        rw [hH]
        refine AHeap.ext' rfl fun i => ?_
        simp only [AHeap.over]
        rw [R.ex_congr (l := l) (l' := l) (q := m) (q' := m + 1) ops.size (fun a cs ha hka => ⟨fun x => ⟨x.1, by
          have : a ≠ m := fun e => by subst e; rw [hk] at hka; exact hna cs hka
          omega⟩, fun x => ⟨x.1, by omega⟩⟩) i]
      cases k with
      | idle => obtain ⟨_, h⟩ := hs; exact same (fun _ e => by cases e) h
      | read => obtain ⟨_, _, h⟩ := hs; exact same (fun _ e => by cases e) h
      | eff => simp [Kind.isEff] at hne
      | alloc cs =>
        have hlm : l m = true := hl m (by omega) (by omega) (by rw [hk]; rfl)
        have hH := R.alloc_next (by omega) hk
        unfold Run.HS Run.X
        refine AHeap.ext' rfl fun i => ?_
        simp only [AHeap.over, hH, AHeap.get_push]
        by_cases ei : i = (R.H m).next
        · subst ei
          rw [R.ex_of (l := l) (q := m) (Nat.le_refl _) (by omega) hk hlm (Nat.le_refl _)]
          have : R.ex l (m + 1) ops.size (R.H m).next = none := by
            cases hx : R.ex l (m + 1) ops.size (R.H m).next with
            | none => rfl
            | some x =>
              obtain ⟨a, cs', h1, h2, h3, h4, h5, h6⟩ := R.ex_some hx
              have := R.alloc_lt (a := m) (b := a) (by omega) (by omega) hk
              omega
          rw [this]
          simp
        · rw [if_neg ei]
          have : R.ex l m ops.size i = R.ex l (m + 1) ops.size i := by
            cases hx : R.ex l (m + 1) ops.size i with
            | some x =>
              obtain ⟨a, cs', h1, h2, h3, h4, h5, h6⟩ := R.ex_some hx
              rw [h5, R.ex_of (l := l) (q := m) (Nat.le_refl _) h1 h2 h3 (by omega), h6]
            | none =>
              cases hy : R.ex l m ops.size i with
              | none => rfl
              | some y =>
                obtain ⟨a, cs', h1, h2, h3, h4, h5, h6⟩ := R.ex_some hy
                by_cases ea : a = m
                · subst ea; exact absurd h5 ei
                · have := R.ex_of (l := l) (q := m + 1) (Nat.le_refl _) h1 h2 h3 (by omega)
                  rw [← h5, hx] at this
                  simp at this
          rw [this]

end
end Go.Abs
