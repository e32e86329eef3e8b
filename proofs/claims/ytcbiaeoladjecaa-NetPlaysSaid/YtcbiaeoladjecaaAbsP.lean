/-
  A simplified meaning for Go code, sixteenth part: a region that draws its order, whatever order is drawn.
-/
import Derived.Test.YtcbiaeoladjecaaAbsO
import Derived.Orders
namespace Go.Abs
open Go

/-- A new block under whatever number that is free. -/
theorem Rel.pushAt {E : Env} {H : AHeap} {w w' : World} (h : Rel E H w) {i0 : Nat} (hi0 : i0 < H.next) (hφ : E.φ i0 = none) {cs : List AV} {vs : List Value} {c : Array Value} {e : TypeId} {fz : Nat × Nat}
    (hw : w'.heap = w.heap.push (.cells c e fz)) (ho : w'.os = w.os) (hu : w'.output = w.output)
    (hv : VRels E cs vs) (hp : vs <+: c.toList) (hfz : Unfr fz c.size) :
    Rel (E.put i0 ⟨w.heap.size, 0, c.size⟩) (H.set i0 (.cells cs)) w' := by
  have hx := Env.put_ext (E := E) (i := i0) (p := ⟨w.heap.size, 0, c.size⟩) hφ
  have hsz : ∀ B o, w.heap[B]? = some o → B < w.heap.size := fun B o hb => by
    rcases Nat.lt_or_ge B w.heap.size with q | q
    · exact q
    · rw [Array.getElem?_eq_none q] at hb; simp at hb
  have hold : ∀ B o, w.heap[B]? = some o → w'.heap[B]? = some o := fun B o hb => by
    have hlt := hsz B o hb
    have := heap_alloc_old w (.cells c e fz) B hlt
    have e1 : (w.alloc (.cells c e fz)).heap = w'.heap := by rw [hw]; rfl
    rw [← e1, this]; exact hb
  have hnew : w'.heap[w.heap.size]? = some (.cells c e fz) := by
    have e1 : (w.alloc (.cells c e fz)).heap = w'.heap := by rw [hw]; rfl
    rw [← e1]; exact heap_alloc_new w _
  refine ⟨ho.trans h.os, hu.trans h.out, fun B o hb => hold B o (h.K B o hb), fun B o hb => hold B o (h.F B o hb), h.KF, ?_, ?_, ?_⟩
  · intro i p hp
    simp only [Env.put] at hp
    show i < H.next
    split at hp
    · omega
    · exact h.dom i p hp
  · intro i x hi
    simp only [AHeap.set] at hi
    split at hi
    · rename_i hin
      subst hin
      simp only [Option.some.injEq] at hi; subst hi
      refine ⟨⟨w.heap.size, 0, c.size⟩, .cells c e fz, by simp [Env.put], ?_, ?_, hnew, c, e, fz, vs, rfl, rfl, hv.mono hx.knows, by simpa using hp, hfz⟩
      · cases hk : E.K w.heap.size with
        | none => exact hk
        | some o => exact absurd (hsz _ _ (h.K _ _ hk)) (Nat.lt_irrefl _)
      · cases hk : E.F w.heap.size with
        | none => exact hk
        | some o => exact absurd (hsz _ _ (h.F _ _ hk)) (Nat.lt_irrefl _)
    · obtain ⟨p, ob, h1, h2, h3, h4, h5⟩ := h.live i x hi
      exact ⟨p, ob, hx.φ _ _ h1, h2, h3, hold _ _ h4, h5.mono hx.knows⟩
  · intro i j x y p q hi hj hpi hqj hpq
    simp only [AHeap.set] at hi hj
    simp only [Env.put] at hpi hqj
    by_cases h1 : i = i0 <;> by_cases h2 : j = i0
    · omega
    · rw [if_pos h1] at hpi; rw [if_neg h2] at hqj hj
      simp only [Option.some.injEq] at hpi; subst hpi
      obtain ⟨q', ob, g1, _, _, g4, _⟩ := h.live j y hj
      rw [g1] at hqj; cases hqj
      have := hsz _ _ g4
      simp only at hpq; omega
    · rw [if_neg h1] at hpi hi; rw [if_pos h2] at hqj
      simp only [Option.some.injEq] at hqj; subst hqj
      obtain ⟨q', ob, g1, _, _, g4, _⟩ := h.live i x hi
      rw [g1] at hpi; cases hpi
      have := hsz _ _ g4
      simp only at hpq; omega
    · rw [if_neg h1] at hpi hi; rw [if_neg h2] at hqj hj
      exact h.inj i j x y p q hi hj hpi hqj hpq

section
variable {P : Program} {G : Nat → Option AV} {N : Nat} {ops : Array Oper}

def Closed (ops : Array Oper) (l : Nat → Bool) : Prop := ∀ j o, ops[j]? = some o → l j = true → ∀ e ∈ o.after, Region.binds .any e = true → l e.on = true

theorem Closed.reach {l : Nat → Bool} (h : Closed ops l) {i j : Nat} (hr : Reach ops i j) : l j = true → l i = true := by
  induction hr with
  | edge ho he hb hi => intro hj; rw [← hi]; exact h _ _ ho hj _ he hb
  | trans _ _ ih1 ih2 => intro hk; exact ih1 (ih2 hk)

/-- All that must come ahead of i is done. -/
def Free (ops : Array Oper) (l : Nat → Bool) (i : Nat) : Prop := ∀ o, ops[i]? = some o → ∀ e ∈ o.after, Region.binds .any e = true → l e.on = true

theorem Free.reach {l : Nat → Bool} {i : Nat} (hf : Free ops l i) (hc : Closed ops l) {j : Nat} (hr : Reach ops j i) : l j = true := by
  have key : ∀ j k, Reach ops j k → k = i → l j = true := by
    intro j k hr
    induction hr with
    | edge ho he hb hi => intro e; subst e; rw [← hi]; exact hf _ ho _ he hb
    | trans h1 _ _ ih2 => intro e; exact hc.reach h1 (ih2 e)
  exact key j i hr rfl

/-- The slot t holds in the text's order, ahead of i, what it holds when those of l are done. -/
theorem Run.TS_eq (R : Run P G N ops) {l : Nat → Bool} {t i : Nat} (hi : i ≤ ops.size) (hlo : ∀ j o, j < i → ops[j]? = some o → o.dst = some t → l j = true) (hhi : ∀ j o, i ≤ j → ops[j]? = some o → o.dst = some t → l j = false) :
    R.TS l ops.size t = R.T i t := by
  have h1 : ∀ k, k ≤ i → R.TS l k t = R.T k t := by
    intro k
    induction k with
    | zero => intro _; rfl
    | succ k ih =>
      intro hk
      have ih := ih (by omega)
      obtain ⟨o, ho⟩ := get_of (ops := ops) (i := k) (by omega)
      simp only [Run.TS, ho, R.put k o ho]
      by_cases hd : o.dst = some t
      · rw [hlo k o (by omega) ho hd]
        simp [tput, hd]
      · have e1 : ∀ T : Nat → AV, tput T o.dst (R.v k) t = T t := fun T => by
          cases hdd : o.dst with
          | none => rfl
          | some d =>
            simp only [tput]
            rw [if_neg (fun e => hd (by rw [hdd, e]))]
        split
        · rw [e1, e1, ih]
        · rw [e1, ih]
  have h2 : ∀ k, i ≤ k → k ≤ ops.size → R.TS l k t = R.T i t := by
    intro k
    induction k with
    | zero => intro hk _; have : i = 0 := by omega
              subst this; rfl
    | succ k ih =>
      intro hk hks
      by_cases e : i = k + 1
      · subst e; exact h1 _ (Nat.le_refl _)
      · have ih := ih (by omega) (by omega)
        obtain ⟨o, ho⟩ := get_of (ops := ops) (i := k) (by omega)
        simp only [Run.TS, ho]
        split
        · rename_i hl
          cases hdd : o.dst with
          | none => simpa [tput] using ih
          | some d =>
            simp only [tput]
            by_cases ed : t = d
            · subst ed
              have := hhi k o (by omega) ho hdd
              rw [hl] at this; simp at this
            · rw [if_neg ed]; exact ih
        · exact ih
  exact h2 ops.size hi (Nat.le_refl _)

def add (l : Nat → Bool) (i : Nat) : Nat → Bool := fun j => if j = i then true else l j

theorem Run.TS_add (R : Run P G N ops) {l : Nat → Bool} {i : Nat} {o : Oper} (ho : ops[i]? = some o) (hl : l i = false) (hlate : ∀ j q d, i < j → ops[j]? = some q → l j = true → q.dst = some d → o.dst ≠ some d) :
    ∀ t, R.TS (add l i) ops.size t = tput (R.TS l ops.size) o.dst (R.v i) t := by
  have hi := get_lt ho
  have h1 : ∀ k, k ≤ i → R.TS (add l i) k = R.TS l k := by
    intro k
    induction k with
    | zero => intro _; rfl
    | succ k ih =>
      intro hk
      have ih := ih (by omega)
      simp only [Run.TS, ih]
      have : add l i k = l k := by simp only [add]; rw [if_neg (by omega)]
      rw [this]
  have h2 : ∀ k, i < k → k ≤ ops.size → ∀ t, R.TS (add l i) k t = tput (R.TS l k) o.dst (R.v i) t := by
    intro k
    induction k with
    | zero => intro hk; omega
    | succ k ih =>
      intro hk hks t
      by_cases e : k = i
      · subst e
        simp only [Run.TS, ho, h1 k (Nat.le_refl _), hl]
        have : add l k k = true := by simp [add]
        rw [this]
        rfl
      · have ih := ih (by omega) (by omega)
        obtain ⟨q, hq⟩ := get_of (ops := ops) (i := k) (by omega)
        have hadd : add l i k = l k := by simp only [add]; rw [if_neg e]
        simp only [Run.TS, hq, hadd]
        split
        · rename_i hlk
          cases hqd : q.dst with
          | none => simpa [tput] using ih t
          | some d =>
            have hne := hlate k q d (by omega) hq hlk hqd
            cases hod : o.dst with
            | none =>
              simp only [tput]
              have := ih t
              rw [hod] at this
              simp only [tput] at this
              rw [this]
            | some d' =>
              have hdd : d' ≠ d := fun e => hne (by rw [hod, e])
              have := ih t
              rw [hod] at this
              simp only [tput] at this ⊢
              by_cases e1 : t = d
              · rw [if_pos e1, if_pos e1, if_neg (fun e2 => hdd (e2.symm.trans e1))]
              · rw [if_neg e1, if_neg e1]; exact this
        · exact ih t
  exact h2 ops.size hi (Nat.le_refl _)

/-- What holds when the operations of l are done, in whatever order. -/
structure Inv (R : Run P G N ops) (E0 : Env) (l : Nat → Bool) (a : Act) (w : World) : Prop where
  closed : Closed ops l
  defers : a.defers = []
  ex : ∃ E q, Ext E0 E ∧ q ≤ ops.size ∧ (q = 0 ∨ ∃ e, q = e + 1 ∧ (R.k e).isEff = true ∧ l e = true) ∧ (∀ e, q ≤ e → e < ops.size → (R.k e).isEff = true → l e = false) ∧
    (∀ j, j < q → ((R.k j).isEff = true ∨ (R.k j).isAlloc = true) → l j = true) ∧ Rel E (R.HS l q) w ∧
    (∀ i p, E.φ i = some p → i < (R.H q).next ∨ ∃ x, R.ex l q ops.size i = some x) ∧ TRel E N (R.TS l ops.size) a.tmps

theorem Knows.put {E0 E : Env} {i : Nat} {p : Place} (h : Ext E0 E) (hn : E.φ i = none) : Ext E0 (E.put i p) := h.trans (Env.put_ext hn)

theorem apart_dst {o q : Oper} {d : Tmp} (h1 : o.dst = some d) (h2 : q.dst = some d) : o.apart ops q = false := by
  cases h : o.apart ops q with
  | false => rfl
  | true => exact absurd h2 ((Oper.apart_spec h).2.1 d h1)

theorem apart_looks {o q : Oper} {d : Tmp} (h1 : o.dst = some d) (h2 : d ∈ q.looksAt ops) : o.apart ops q = false := by
  cases h : o.apart ops q with
  | false => rfl
  | true => exact absurd h2 ((Oper.apart_spec h).1 d h1)

theorem apart_looks' {o q : Oper} {d : Tmp} (h1 : q.dst = some d) (h2 : d ∈ o.looksAt ops) : o.apart ops q = false := by
  cases h : o.apart ops q with
  | false => rfl
  | true => exact absurd h2 ((Oper.apart_spec h).2.2 d h1)

section
variable {R : Run P G N ops} {E0 : Env} {l : Nat → Bool} {a : Act} {w : World} {i : Nat} {o : Oper}

/-- A slot that operation i looks at holds what it holds in the text's order. -/
theorem Inv.slot (h : Inv R E0 l a w) (ho : ops[i]? = some o) (hli : l i = false) (hf : Free ops l i) {t : Tmp} (ht : t ∈ o.looksAt ops) : R.TS l ops.size t = R.T i t := by
  refine R.TS_eq (Nat.le_of_lt (get_lt ho)) (fun j q hj hq hd => ?_) (fun j q hj hq hd => ?_)
  · exact hf.reach h.closed (R.slots j i q o hj hq ho (apart_looks hd ht))
  · by_cases e : j = i
    · subst e; exact hli
    · have hr := R.slots i j o q (by omega) ho hq (apart_looks' hd ht)
      cases hlj : l j with
      | false => rfl
      | true => rw [h.closed.reach hr hlj] at hli; simp at hli

theorem Inv.operand (h : Inv R E0 l a w) (ho : ops[i]? = some o) (hli : l i = false) (hf : Free ops l i) {x : Operand} (hx : x ∈ o.op.operands.toList) : aval G (R.TS l ops.size) x = aval G (R.T i) x := by
  cases x with
  | tmp t =>
    simp only [aval]
    rw [h.slot ho hli hf (t := t)]
    simp only [Oper.looksAt, List.mem_append, List.mem_filterMap]
    exact .inl ⟨.tmp t, hx, rfl⟩
  | const v => rfl
  | global g => rfl
  | func f => rfl

theorem Inv.wanted (h : Inv R E0 l a w) (ho : ops[i]? = some o) (hli : l i = false) (hf : Free ops l i) : awanted ops (R.TS l ops.size) o = awanted ops (R.T i) o := by
  unfold awanted
  cases hg : o.guard with
  | none => rfl
  | some p =>
    obtain ⟨j, want⟩ := p
    simp only
    have : ayield ops (R.TS l ops.size) j = ayield ops (R.T i) j := by
      unfold ayield
      cases hd : (ops[j]?).bind (·.dst) with
      | none => rfl
      | some d =>
        simp only
        rw [h.slot ho hli hf (t := d)]
        simp only [Oper.looksAt, List.mem_append, hg]
        right
        rw [hd]; simp
    rw [this]

theorem Free.closed_add (hc : Closed ops l) (hf : Free ops l i) : Closed ops (add l i) := by
  intro j q hq hj e he hb
  simp only [add] at hj ⊢
  split
  · rfl
  · split at hj
    · rename_i e1; subst e1; exact hf q hq e he hb
    · exact hc j q hq hj e he hb

theorem Inv.late (h : Inv R E0 l a w) (ho : ops[i]? = some o) (hli : l i = false) : ∀ j q d, i < j → ops[j]? = some q → l j = true → q.dst = some d → o.dst ≠ some d := by
  intro j q d hij hq hlj hd hod
  have := h.closed.reach (R.slots i j o q hij ho hq (apart_dst hod hd)) hlj
  rw [hli] at this; simp at this

theorem TRel.congr {E : Env} {T T' : Nat → AV} {tmps : Array Value} (h : TRel E N T tmps) (e : ∀ t, T' t = T t) : TRel E N T' tmps := ⟨h.size, fun t => by rw [e]; exact h.rel t⟩

theorem put_defers (a : Act) (d : Option Tmp) (v : Value) : (a.put d v).defers = a.defers := by cases d <;> rfl

/-- An operation that neither writes nor lays a block, done. -/
theorem Inv.idle (h : Inv R E0 l a w) (ho : ops[i]? = some o) (hli : l i = false) (hf : Free ops l i) (hk1 : (R.k i).isEff = false) (hk2 : (R.k i).isAlloc = false)
    {u : Value} (hu : ∀ E q, Ext E0 E → Rel E (R.HS l q) w → q ≤ ops.size → (q = 0 ∨ ∃ e, q = e + 1 ∧ (R.k e).isEff = true ∧ l e = true) → (∀ e, q ≤ e → e < ops.size → (R.k e).isEff = true → l e = false) → TRel E N (R.TS l ops.size) a.tmps → VRel E (R.v i) u) : Inv R E0 (add l i) (a.put o.dst u) w := by
  obtain ⟨hc, hdf, E, q, g1, g2, g3, g4, g5, g6, g7, g8⟩ := h
  refine ⟨hf.closed_add hc, by rw [put_defers]; exact hdf, E, q, g1, g2, ?_, ?_, ?_, ?_, ?_, ?_⟩
  · rcases g3 with g3 | ⟨e, e1, e2, e3⟩
    · exact .inl g3
    · exact .inr ⟨e, e1, e2, by simp only [add]; split <;> first | rfl | exact e3⟩
  · intro e h1 h2 h3
    simp only [add]
    rw [if_neg (fun e' => by subst e'; rw [hk1] at h3; simp at h3)]
    exact g4 e h1 h2 h3
  · intro j h1 h2
    simp only [add]
    split
    · rfl
    · exact g5 j h1 h2
  · have : R.HS (add l i) q = R.HS l q := by
      unfold Run.HS Run.X
      refine AHeap.ext' rfl fun j => ?_
      simp only [AHeap.over]
      rw [R.ex_congr (l := add l i) (l' := l) (q := q) (q' := q) ops.size (fun b cs _ hkb => by
        have : b ≠ i := fun e => by subst e; rw [hkb] at hk2; simp [Kind.isAlloc] at hk2
        simp only [add]; rw [if_neg this])]
    rw [this]; exact g6
  · intro j p hp
    rcases g7 j p hp with h1 | ⟨x, h1⟩
    · exact .inl h1
    · right
      refine ⟨x, ?_⟩
      rw [R.ex_congr (l := add l i) (l' := l) (q := q) (q' := q) ops.size (fun b cs _ hkb => by
        have : b ≠ i := fun e => by subst e; rw [hkb] at hk2; simp [Kind.isAlloc] at hk2
        simp only [add]; rw [if_neg this])]
      exact h1
  · exact (g8.put o.dst (hu E q g1 g6 g2 g3 g4 g8) (R.dst i o ho)).congr (R.TS_add ho hli (Inv.late ⟨hc, hdf, E, q, g1, g2, g3, g4, g5, g6, g7, g8⟩ ho hli))

/-- An operation that lays a block, done. -/
theorem Inv.alloc (h : Inv R E0 l a w) (ho : ops[i]? = some o) (hli : l i = false) (hf : Free ops l i) {cs : List AV} (hk : R.k i = .alloc cs)
    {u : Value} {w' : World} {c : Array Value} {e : TypeId} {fz : Nat × Nat} (hw : w'.heap = w.heap.push (.cells c e fz)) (hos : w'.os = w.os) (hout : w'.output = w.output)
    (hv : ∀ E q, Ext E0 E → Rel E (R.HS l q) w → TRel E N (R.TS l ops.size) a.tmps → ∃ vs, VRels E cs vs ∧ vs <+: c.toList) (hfz : Unfr fz c.size)
    (hu : ∀ (E' : Env), E'.φ (R.H i).next = some ⟨w.heap.size, 0, c.size⟩ → VRel E' (R.v i) u) : Inv R E0 (add l i) (a.put o.dst u) w' := by
  have hlate := h.late ho hli
  obtain ⟨hc, hdf, E, q, g1, g2, g3, g4, g5, g6, g7, g8⟩ := h
  have hi := get_lt ho
  have hqi : q ≤ i := by
    rcases Nat.lt_or_ge i q with h1 | h1
    · have := g5 i h1 (.inr (by rw [hk]; rfl)); rw [hli] at this; simp at this
    · exact h1
  have hfree : E.φ (R.H i).next = none := by
    cases hp : E.φ (R.H i).next with
    | none => rfl
    | some p =>
      rcases g7 _ _ hp with h1 | ⟨x, h1⟩
      · have := R.mono_le (i := q) i hqi (by omega); omega
      · obtain ⟨b, cs', b1, b2, b3, b4, b5, b6⟩ := R.ex_some h1
        rcases Nat.lt_trichotomy b i with h2 | h2 | h2
        · have := R.alloc_lt (a := b) (b := i) h2 (by omega) b2; omega
        · subst h2; rw [hli] at b3; simp at b3
        · have := R.alloc_lt (a := i) (b := b) h2 (by omega) hk; omega
  have hlt : (R.H i).next < (R.HS l q).next := R.alloc_lt (a := i) (b := ops.size) hi (Nat.le_refl _) hk
  obtain ⟨vs', hvr, hpre⟩ := hv E q g1 g6 g8
  have hrel := g6.pushAt hlt hfree hw hos hout hvr hpre hfz
  have hx := Env.put_ext (E := E) (p := ⟨w.heap.size, 0, c.size⟩) hfree
  have hHS : (R.HS l q).set (R.H i).next (.cells cs) = R.HS (add l i) q := by
    unfold Run.HS Run.X
    refine AHeap.ext' rfl fun j => ?_
    simp only [AHeap.over, AHeap.get_set]
    by_cases ej : j = (R.H i).next
    · subst ej
      rw [if_pos rfl, R.ex_of (l := add l i) (q := q) (Nat.le_refl _) hi hk (by simp [add]) hqi]
    · rw [if_neg ej]
      have : R.ex (add l i) q ops.size j = R.ex l q ops.size j := by
        cases hx1 : R.ex l q ops.size j with
        | some x =>
          obtain ⟨b, cs', b1, b2, b3, b4, b5, b6⟩ := R.ex_some hx1
          rw [b5, R.ex_of (l := add l i) (q := q) (Nat.le_refl _) b1 b2 (by simp only [add]; split <;> first | rfl | exact b3) b4, b6]
        | none =>
          cases hx2 : R.ex (add l i) q ops.size j with
          | none => rfl
          | some y =>
            obtain ⟨b, cs', b1, b2, b3, b4, b5, b6⟩ := R.ex_some hx2
            by_cases eb : b = i
            · subst eb; exact absurd b5 ej
            · simp only [add] at b3
              rw [if_neg eb] at b3
              have := R.ex_of (l := l) (q := q) (Nat.le_refl _) b1 b2 b3 b4
              rw [← b5, hx1] at this; simp at this
      rw [this]
  rw [hHS] at hrel
  refine ⟨hf.closed_add hc, by rw [put_defers]; exact hdf, _, q, g1.trans hx, g2, ?_, ?_, ?_, hrel, ?_, ?_⟩
  · rcases g3 with g3 | ⟨e, e1, e2, e3⟩
    · exact .inl g3
    · exact .inr ⟨e, e1, e2, by simp only [add]; split <;> first | rfl | exact e3⟩
  · intro e h1 h2 h3
    simp only [add]
    rw [if_neg (fun e' => by subst e'; rw [hk] at h3; simp [Kind.isEff] at h3)]
    exact g4 e h1 h2 h3
  · intro j h1 h2
    simp only [add]
    split
    · rfl
    · exact g5 j h1 h2
  · intro j p hp
    simp only [Env.put] at hp
    split at hp
    · rename_i ej
      right
      rw [ej]
      exact ⟨_, R.ex_of (l := add l i) (q := q) (Nat.le_refl _) hi hk (by simp [add]) hqi⟩
    · rcases g7 j p hp with h1 | ⟨x, h1⟩
      · exact .inl h1
      · right
        obtain ⟨b, cs', b1, b2, b3, b4, b5, b6⟩ := R.ex_some h1
        rw [b5]
        exact ⟨_, R.ex_of (l := add l i) (q := q) (Nat.le_refl _) b1 b2 (by simp only [add]; split <;> first | rfl | exact b3) b4⟩
  · exact ((g8.mono hx.knows).put o.dst (hu _ (by simp [Env.put])) (R.dst i o ho)).congr (R.TS_add ho hli hlate)

end
end
end Go.Abs
