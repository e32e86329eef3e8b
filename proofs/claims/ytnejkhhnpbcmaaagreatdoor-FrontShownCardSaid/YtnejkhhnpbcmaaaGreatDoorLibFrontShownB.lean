/-
  Own library of this claim, part 2: texts one behind the other.
-/
import Derived.Orders
import Derived.Below
import Derived.ChangeSame
import Derived.WideKeyArgs
import Derived.Lib.Bytealg
import Derived.Laws.Externs
import Derived.Test.YtnejkhhnpbcmaaaGreatDoorRows
import Derived.Lib.Walk
import Derived.Lib.UnsafeStr
import Derived.Lib.MakeNoZero
import Derived.Lib.Builder
import Derived.Laws.IdiomCopy
import Derived.Lib.BufferWrite
import Derived.Lib.Hide
import Derived.Laws.MakeOwn
import Derived.OwnWalk
import Derived.WalkKit
import Derived.KernelRfl
import Derived.Test.YtnejkhhnpbcmaaaGreatDoorLibFrontShownA
set_option maxRecDepth 100000
set_option maxHeartbeats 8000000
set_option linter.unusedVariables false
set_option linter.unusedSimpArgs false
namespace Go.Abs
open Go
theorem Rel.pushAt {E : Env} {H : AHeap} {w w' : World} (h : Rel E H w) {i0 : Nat} (hi0 : i0 < H.next) (hφ : E.φ i0 = none) {x0 : AObj} {ob0 : Obj}
  (hw : w'.heap = w.heap.push ob0) (ho : w'.os = w.os) (hu : w'.output = w.output) (hr : ORel E ⟨w.heap.size, 0, obN ob0, obE ob0⟩ x0 ob0) :
  Rel (E.put i0 ⟨w.heap.size, 0, obN ob0, obE ob0⟩) (H.set i0 x0) w' := by
 have hx := Env.put_ext (E := E) (i := i0) (p := ⟨w.heap.size, 0, obN ob0, obE ob0⟩) hφ
 have hsz : ∀ B o, w.heap[B]? = some o -> B < w.heap.size := fun B o hb => by
  rcases Nat.lt_or_ge B w.heap.size with q | q
  · exact q
  · rw [Array.getElem?_eq_none q] at hb; simp at hb
 have hold : ∀ B o, w.heap[B]? = some o -> w'.heap[B]? = some o := fun B o hb => by
  have hlt := hsz B o hb
  rw [hw, Array.getElem?_push, if_neg (by omega)]; exact hb
 have hnew : w'.heap[w.heap.size]? = some ob0 := by rw [hw]; simp
 refine ⟨ho.trans h.os, hu.trans h.out, fun B o hb => hold B o (h.K B o hb), fun B o hb => hold B o (h.F B o hb), h.KF, ?_, ?_, ?_⟩
 · intro i p hp
   simp only [Env.put] at hp
   show i < H.next
   split at hp
   · omega
   · exact h.dom i p hp
 · intro i x hi
   simp only [AHeap.set] at hi
   split at hi
   · rename_i hin
     subst hin
     simp only [Option.some.injEq] at hi; subst hi
     refine ⟨⟨w.heap.size, 0, obN ob0, obE ob0⟩, ob0, by simp [Env.put], ?_, ?_, hnew, hr.mono hx.knows⟩
     · cases hk : E.K w.heap.size with
       | none => exact hk
       | some o => exact absurd (hsz _ _ (h.K _ _ hk)) (Nat.lt_irrefl _)
     · cases hk : E.F w.heap.size with
       | none => exact hk
       | some o => exact absurd (hsz _ _ (h.F _ _ hk)) (Nat.lt_irrefl _)
   · obtain ⟨p, ob, h1, h2, h3, h4, h5⟩ := h.live i x hi
     exact ⟨p, ob, hx.φ _ _ h1, h2, h3, hold _ _ h4, h5.mono hx.knows⟩
 · intro i j x y p q hi hj hpi hqj hpq
   simp only [AHeap.set] at hi hj
   simp only [Env.put] at hpi hqj
   by_cases h1 : i = i0 <;> by_cases h2 : j = i0
   · omega
   · rw [if_pos h1] at hpi; rw [if_neg h2] at hqj hj
     simp only [Option.some.injEq] at hpi; subst hpi
     obtain ⟨q', ob, g1, _, _, g4, _⟩ := h.live j y hj
     rw [g1] at hqj; cases hqj
     have := hsz _ _ g4
     simp only at hpq; omega
   · rw [if_neg h1] at hpi hi; rw [if_pos h2] at hqj
     simp only [Option.some.injEq] at hqj; subst hqj
     obtain ⟨q', ob, g1, _, _, g4, _⟩ := h.live i x hi
     rw [g1] at hpi; cases hpi
     have := hsz _ _ g4
     simp only at hpq; omega
   · rw [if_neg h1] at hpi hi; rw [if_neg h2] at hqj hj
     exact h.inj i j x y p q hi hj hpi hqj hpq
section
variable {P : Program} {G : Nat -> Option AV} {N : Nat} {ops : Array Oper}
def Closed (ops : Array Oper) (l : Nat -> Bool) : Prop := ∀ j o, ops[j]? = some o -> l j = true -> ∀ e ∈ o.after, Region.binds .any e = true -> l e.on = true
theorem Closed.reach {l : Nat -> Bool} (h : Closed ops l) {i j : Nat} (hr : Reach ops i j) : l j = true -> l i = true := by
 induction hr with
 | edge ho he hb hi => intro hj; rw [<- hi]; exact h _ _ ho hj _ he hb
 | trans _ _ ih1 ih2 => intro hk; exact ih1 (ih2 hk)
def Free (ops : Array Oper) (l : Nat -> Bool) (i : Nat) : Prop := ∀ o, ops[i]? = some o -> ∀ e ∈ o.after, Region.binds .any e = true -> l e.on = true
theorem Free.reach {l : Nat -> Bool} {i : Nat} (hf : Free ops l i) (hc : Closed ops l) {j : Nat} (hr : Reach ops j i) : l j = true := by
 have key : ∀ j k, Reach ops j k -> k = i -> l j = true := by
  intro j k hr
  induction hr with
  | edge ho he hb hi => intro e; subst e; rw [<- hi]; exact hf _ ho _ he hb
  | trans h1 _ _ ih2 => intro e; exact hc.reach h1 (ih2 e)
 exact key j i hr rfl
theorem Run.TS_eq (R : Run P G N ops) {l : Nat -> Bool} {t i : Nat} (hi : i <= ops.size) (hlo : ∀ j o, j < i -> ops[j]? = some o -> o.dst = some t -> l j = true) (hhi : ∀ j o, i <= j -> ops[j]? = some o -> o.dst = some t -> l j = false) :
  R.TS l ops.size t = R.T i t := by
 have h1 : ∀ k, k <= i -> R.TS l k t = R.T k t := by
  intro k
  induction k with
  | zero => intro _; rfl
  | succ k ih =>
    intro hk
    have ih := ih (by omega)
    obtain ⟨o, ho⟩ := zc4 (ops := ops) (i := k) (by omega)
    simp only [Run.TS, ho, R.put k o ho]
    by_cases hd : o.dst = some t
    · rw [hlo k o (by omega) ho hd]
      simp [tput, hd]
    · have e1 : ∀ T : Nat -> AV, tput T o.dst (R.v k) t = T t := fun T => by
       cases hdd : o.dst with
       | none => rfl
       | some d =>
         simp only [tput]
         rw [if_neg (fun e => hd (by rw [hdd, e]))]
      split
      · rw [e1, e1, ih]
      · rw [e1, ih]
 have h2 : ∀ k, i <= k -> k <= ops.size -> R.TS l k t = R.T i t := by
  intro k
  induction k with
  | zero => intro hk _; have : i = 0 := by omega
            subst this; rfl
  | succ k ih =>
    intro hk hks
    by_cases e : i = k + 1
    · subst e; exact h1 _ (Nat.le_refl _)
    · have ih := ih (by omega) (by omega)
      obtain ⟨o, ho⟩ := zc4 (ops := ops) (i := k) (by omega)
      simp only [Run.TS, ho]
      split
      · rename_i hl
        cases hdd : o.dst with
        | none => simpa [tput] using ih
        | some d =>
          simp only [tput]
          by_cases ed : t = d
          · subst ed
            have := hhi k o (by omega) ho hdd
            rw [hl] at this; simp at this
          · rw [if_neg ed]; exact ih
      · exact ih
 exact h2 ops.size hi (Nat.le_refl _)
def add (l : Nat -> Bool) (i : Nat) : Nat -> Bool := fun j => if j = i then true else l j
theorem Run.TS_add (R : Run P G N ops) {l : Nat -> Bool} {i : Nat} {o : Oper} (ho : ops[i]? = some o) (hl : l i = false) (hlate : ∀ j q d, i < j -> ops[j]? = some q -> l j = true -> q.dst = some d -> o.dst ≠ some d) :
  ∀ t, R.TS (add l i) ops.size t = tput (R.TS l ops.size) o.dst (R.v i) t := by
 have hi := zdF ho
 have h1 : ∀ k, k <= i -> R.TS (add l i) k = R.TS l k := by
  intro k
  induction k with
  | zero => intro _; rfl
  | succ k ih =>
    intro hk
    have ih := ih (by omega)
    simp only [Run.TS, ih]
    have : add l i k = l k := by simp only [add]; rw [if_neg (by omega)]
    rw [this]
 have h2 : ∀ k, i < k -> k <= ops.size -> ∀ t, R.TS (add l i) k t = tput (R.TS l k) o.dst (R.v i) t := by
  intro k
  induction k with
  | zero => intro hk; omega
  | succ k ih =>
    intro hk hks t
    by_cases e : k = i
    · subst e
      simp only [Run.TS, ho, h1 k (Nat.le_refl _), hl]
      have : add l k k = true := by simp [add]
      rw [this]
      rfl
    · have ih := ih (by omega) (by omega)
      obtain ⟨q, hq⟩ := zc4 (ops := ops) (i := k) (by omega)
      have hadd : add l i k = l k := by simp only [add]; rw [if_neg e]
      simp only [Run.TS, hq, hadd]
      split
      · rename_i hlk
        cases hqd : q.dst with
        | none => simpa [tput] using ih t
        | some d =>
          have hne := hlate k q d (by omega) hq hlk hqd
          cases hod : o.dst with
          | none =>
            simp only [tput]
            have := ih t
            rw [hod] at this
            simp only [tput] at this
            rw [this]
          | some d' =>
            have hdd : d' ≠ d := fun e => hne (by rw [hod, e])
            have := ih t
            rw [hod] at this
            simp only [tput] at this ⊢
            by_cases e1 : t = d
            · rw [if_pos e1, if_pos e1, if_neg (fun e2 => hdd (e2.symm.trans e1))]
            · rw [if_neg e1, if_neg e1]; exact this
      · exact ih t
 exact h2 ops.size hi (Nat.le_refl _)
structure Inv (R : Run P G N ops) (E0 : Env) (l : Nat -> Bool) (a : Act) (w : World) : Prop where
 closed : Closed ops l
 defers : a.defers = []
 ex : ∃ E q, Ext E0 E /\ q <= ops.size /\ (q = 0 \/ ∃ e, q = e + 1 /\ (R.k e).isEff = true /\ l e = true) /\ (∀ e, q <= e -> e < ops.size -> (R.k e).isEff = true -> l e = false) /\
  (∀ j, j < q -> ((R.k j).isEff = true \/ (R.k j).isAlloc = true) -> l j = true) /\ Rel E (R.HS l q) w /\
  (∀ i p, E.φ i = some p -> i < (R.H q).next \/ ∃ x, R.ex l q ops.size i = some x) /\ TRel E N (R.TS l ops.size) a.tmps
theorem Knows.put {E0 E : Env} {i : Nat} {p : Place} (h : Ext E0 E) (hn : E.φ i = none) : Ext E0 (E.put i p) := h.trans (Env.put_ext hn)
theorem apart_dst {o q : Oper} {d : Tmp} (h1 : o.dst = some d) (h2 : q.dst = some d) : o.apart ops q = false := by
 cases h : o.apart ops q with
 | false => rfl
 | true => exact absurd h2 ((Oper.apart_spec h).2.1 d h1)
theorem apart_looks {o q : Oper} {d : Tmp} (h1 : o.dst = some d) (h2 : d ∈ q.looksAt ops) : o.apart ops q = false := by
 cases h : o.apart ops q with
 | false => rfl
 | true => exact absurd h2 ((Oper.apart_spec h).1 d h1)
theorem ziM {o q : Oper} {d : Tmp} (h1 : q.dst = some d) (h2 : d ∈ o.looksAt ops) : o.apart ops q = false := by
 cases h : o.apart ops q with
 | false => rfl
 | true => exact absurd h2 ((Oper.apart_spec h).2.2 d h1)
section
variable {R : Run P G N ops} {E0 : Env} {l : Nat -> Bool} {a : Act} {w : World} {i : Nat} {o : Oper}
theorem Inv.slot (h : Inv R E0 l a w) (ho : ops[i]? = some o) (hli : l i = false) (hf : Free ops l i) {t : Tmp} (ht : t ∈ o.looksAt ops) : R.TS l ops.size t = R.T i t := by
 refine R.TS_eq (Nat.le_of_lt (zdF ho)) (fun j q hj hq hd => ?_) (fun j q hj hq hd => ?_)
 · exact hf.reach h.closed (R.slots j i q o hj hq ho (apart_looks hd ht))
 · by_cases e : j = i
   · subst e; exact hli
   · have hr := R.slots i j o q (by omega) ho hq (ziM hd ht)
     cases hlj : l j with
     | false => rfl
     | true => rw [h.closed.reach hr hlj] at hli; simp at hli
theorem Inv.operand (h : Inv R E0 l a w) (ho : ops[i]? = some o) (hli : l i = false) (hf : Free ops l i) {x : Operand} (hx : x ∈ o.op.operands.toList) : aval G (R.TS l ops.size) x = aval G (R.T i) x := by
 cases x with
 | tmp t =>
   simp only [aval]
   rw [h.slot ho hli hf (t := t)]
   simp only [Oper.looksAt, List.mem_append, List.mem_filterMap]
   exact .inl ⟨.tmp t, hx, rfl⟩
 | const v => rfl
 | global g => rfl
 | func f => rfl
theorem Inv.wanted (h : Inv R E0 l a w) (ho : ops[i]? = some o) (hli : l i = false) (hf : Free ops l i) : zaH ops (R.TS l ops.size) o = zaH ops (R.T i) o := by
 unfold zaH
 cases hg : o.guard with
 | none => rfl
 | some p =>
   obtain ⟨j, want⟩ := p
   simp only
   have : zga ops (R.TS l ops.size) j = zga ops (R.T i) j := by
    unfold zga
    cases hd : (ops[j]?).bind (·.dst) with
    | none => rfl
    | some d =>
      simp only
      rw [h.slot ho hli hf (t := d)]
      simp only [Oper.looksAt, List.mem_append, hg]
      right
      rw [hd]; simp
   rw [this]
theorem Free.closed_add (hc : Closed ops l) (hf : Free ops l i) : Closed ops (add l i) := by
 intro j q hq hj e he hb
 simp only [add] at hj ⊢
 split
 · rfl
 · split at hj
   · rename_i e1; subst e1; exact hf q hq e he hb
   · exact hc j q hq hj e he hb
theorem Inv.late (h : Inv R E0 l a w) (ho : ops[i]? = some o) (hli : l i = false) : ∀ j q d, i < j -> ops[j]? = some q -> l j = true -> q.dst = some d -> o.dst ≠ some d := by
 intro j q d hij hq hlj hd hod
 have := h.closed.reach (R.slots i j o q hij ho hq (apart_dst hod hd)) hlj
 rw [hli] at this; simp at this
theorem TRel.congr {E : Env} {T T' : Nat -> AV} {tmps : Array Value} (h : TRel E N T tmps) (e : ∀ t, T' t = T t) : TRel E N T' tmps := ⟨h.size, fun t => by rw [e]; exact h.rel t⟩
theorem zd2 (a : Act) (d : Option Tmp) (v : Value) : (a.put d v).defers = a.defers := by cases d <;> rfl
theorem Inv.idle (h : Inv R E0 l a w) (ho : ops[i]? = some o) (hli : l i = false) (hf : Free ops l i) (hk1 : (R.k i).isEff = false) (hk2 : (R.k i).isAlloc = false)
  {u : Value} (hu : ∀ E q, Ext E0 E -> Rel E (R.HS l q) w -> q <= ops.size -> (q = 0 \/ ∃ e, q = e + 1 /\ (R.k e).isEff = true /\ l e = true) -> (∀ e, q <= e -> e < ops.size -> (R.k e).isEff = true -> l e = false) -> TRel E N (R.TS l ops.size) a.tmps -> VRel E (R.v i) u) : Inv R E0 (add l i) (a.put o.dst u) w := by
 obtain ⟨hc, hdf, E, q, g1, g2, g3, g4, g5, g6, g7, g8⟩ := h
 refine ⟨hf.closed_add hc, by rw [zd2]; exact hdf, E, q, g1, g2, ?_, ?_, ?_, ?_, ?_, ?_⟩
 · rcases g3 with g3 | ⟨e, e1, e2, e3⟩
   · exact .inl g3
   · exact .inr ⟨e, e1, e2, by simp only [add]; split <;> first | rfl | exact e3⟩
 · intro e h1 h2 h3
   simp only [add]
   rw [if_neg (fun e' => by subst e'; rw [hk1] at h3; simp at h3)]
   exact g4 e h1 h2 h3
 · intro j h1 h2
   simp only [add]
   split
   · rfl
   · exact g5 j h1 h2
 · have : R.HS (add l i) q = R.HS l q := by
    unfold Run.HS Run.X
    refine AHeap.ext' rfl fun j => ?_
    simp only [AHeap.over]
    rw [R.ex_congr (l := add l i) (l' := l) (q := q) (q' := q) ops.size (fun b cs _ hkb => by
     have : b ≠ i := fun e => by subst e; rw [hkb] at hk2; simp [Kind.isAlloc] at hk2
     simp only [add]; rw [if_neg this])]
   rw [this]; exact g6
 · intro j p hp
   rcases g7 j p hp with h1 | ⟨x, h1⟩
   · exact .inl h1
   · right
     refine ⟨x, ?_⟩
     rw [R.ex_congr (l := add l i) (l' := l) (q := q) (q' := q) ops.size (fun b cs _ hkb => by
      have : b ≠ i := fun e => by subst e; rw [hkb] at hk2; simp [Kind.isAlloc] at hk2
      simp only [add]; rw [if_neg this])]
     exact h1
 · exact (g8.put o.dst (hu E q g1 g6 g2 g3 g4 g8) (R.dst i o ho)).congr (R.TS_add ho hli (Inv.late ⟨hc, hdf, E, q, g1, g2, g3, g4, g5, g6, g7, g8⟩ ho hli))
theorem Inv.frz (h : Inv R E0 l a w) (ho : ops[i]? = some o) (hli : l i = false) (hf : Free ops l i) (hk1 : (R.k i).isEff = false) (hk2 : (R.k i).isAlloc = false)
  {u : Value} {w' : World} {ob : Obj} (hw : w'.heap = w.heap.push ob) (hos : w'.os = w.os) (hout : w'.output = w.output)
  (hu : ∀ E E', Ext E0 E -> TRel E N (R.TS l ops.size) a.tmps -> Knows E E' -> E'.K w.heap.size = some ob -> VRel E' (R.v i) u) : Inv R E0 (add l i) (a.put o.dst u) w' := by
 have hlate := h.late ho hli
 obtain ⟨hc, hdf, E1, q, f1, g2, g3, g4, g5, f6, f7, f8⟩ := h
 obtain ⟨E, x1, x2, x3, g6⟩ := f6.pushK hw hos hout
 have g1 := f1.trans x1
 have g7 : ∀ i p, E.φ i = some p -> i < (R.H q).next \/ ∃ x, R.ex l q ops.size i = some x := by rw [x2]; exact f7
 refine ⟨hf.closed_add hc, by rw [zd2]; exact hdf, E, q, g1, g2, ?_, ?_, ?_, ?_, ?_, ?_⟩
 · rcases g3 with g3 | ⟨e, e1, e2, e3⟩
   · exact .inl g3
   · exact .inr ⟨e, e1, e2, by simp only [add]; split <;> first | rfl | exact e3⟩
 · intro e h1 h2 h3
   simp only [add]
   rw [if_neg (fun e' => by subst e'; rw [hk1] at h3; simp at h3)]
   exact g4 e h1 h2 h3
 · intro j h1 h2
   simp only [add]
   split
   · rfl
   · exact g5 j h1 h2
 · have : R.HS (add l i) q = R.HS l q := by
    unfold Run.HS Run.X
    refine AHeap.ext' rfl fun j => ?_
    simp only [AHeap.over]
    rw [R.ex_congr (l := add l i) (l' := l) (q := q) (q' := q) ops.size (fun b cs _ hkb => by
     have : b ≠ i := fun e => by subst e; rw [hkb] at hk2; simp [Kind.isAlloc] at hk2
     simp only [add]; rw [if_neg this])]
   rw [this]; exact g6
 · intro j p hp
   rcases g7 j p hp with h1 | ⟨x, h1⟩
   · exact .inl h1
   · right
     refine ⟨x, ?_⟩
     rw [R.ex_congr (l := add l i) (l' := l) (q := q) (q' := q) ops.size (fun b cs _ hkb => by
      have : b ≠ i := fun e => by subst e; rw [hkb] at hk2; simp [Kind.isAlloc] at hk2
      simp only [add]; rw [if_neg this])]
     exact h1
 · exact ((f8.mono x1.knows).put o.dst (hu E1 E f1 f8 x1.knows x3) (R.dst i o ho)).congr (R.TS_add ho hli hlate)
theorem Inv.alloc (h : Inv R E0 l a w) (ho : ops[i]? = some o) (hli : l i = false) (hf : Free ops l i) {cs : AObj} (hk : R.k i = .alloc cs)
  {u : Value} {w' : World} {ob0 : Obj} (hw : w'.heap = w.heap.push ob0) (hos : w'.os = w.os) (hout : w'.output = w.output)
  (hv : ∀ E q, Ext E0 E -> Rel E (R.HS l q) w -> TRel E N (R.TS l ops.size) a.tmps -> ORel E ⟨w.heap.size, 0, obN ob0, obE ob0⟩ cs ob0)
  (hu : ∀ (E' : Env), E'.φ (R.H i).next = some ⟨w.heap.size, 0, obN ob0, obE ob0⟩ -> VRel E' (R.v i) u) : Inv R E0 (add l i) (a.put o.dst u) w' := by
 have hlate := h.late ho hli
 obtain ⟨hc, hdf, E, q, g1, g2, g3, g4, g5, g6, g7, g8⟩ := h
 have hi := zdF ho
 have hqi : q <= i := by
  rcases Nat.lt_or_ge i q with h1 | h1
  · have := g5 i h1 (.inr (by rw [hk]; rfl)); rw [hli] at this; simp at this
  · exact h1
 have hfree : E.φ (R.H i).next = none := by
  cases hp : E.φ (R.H i).next with
  | none => rfl
  | some p =>
    rcases g7 _ _ hp with h1 | ⟨x, h1⟩
    · have := R.mono_le (i := q) i hqi (by omega); omega
    · obtain ⟨b, cs', b1, b2, b3, b4, b5, b6⟩ := R.ex_some h1
      rcases Nat.lt_trichotomy b i with h2 | h2 | h2
      · have := R.alloc_lt (a := b) (b := i) h2 (by omega) b2; omega
      · subst h2; rw [hli] at b3; simp at b3
      · have := R.alloc_lt (a := i) (b := b) h2 (by omega) hk; omega
 have hlt : (R.H i).next < (R.HS l q).next := R.alloc_lt (a := i) (b := ops.size) hi (Nat.le_refl _) hk
 have hrel := g6.pushAt hlt hfree hw hos hout (hv E q g1 g6 g8)
 have hx := Env.put_ext (E := E) (p := ⟨w.heap.size, 0, obN ob0, obE ob0⟩) hfree
 have hHS : (R.HS l q).set (R.H i).next cs = R.HS (add l i) q := by
  unfold Run.HS Run.X
  refine AHeap.ext' rfl fun j => ?_
  simp only [AHeap.over, AHeap.get_set]
  by_cases ej : j = (R.H i).next
  · subst ej
    rw [if_pos rfl, R.ex_of (l := add l i) (q := q) (Nat.le_refl _) hi hk (by simp [add]) hqi]
  · rw [if_neg ej]
    have : R.ex (add l i) q ops.size j = R.ex l q ops.size j := by
     cases hx1 : R.ex l q ops.size j with
     | some x =>
       obtain ⟨b, cs', b1, b2, b3, b4, b5, b6⟩ := R.ex_some hx1
       rw [b5, R.ex_of (l := add l i) (q := q) (Nat.le_refl _) b1 b2 (by simp only [add]; split <;> first | rfl | exact b3) b4, b6]
     | none =>
       cases hx2 : R.ex (add l i) q ops.size j with
       | none => rfl
       | some y =>
         obtain ⟨b, cs', b1, b2, b3, b4, b5, b6⟩ := R.ex_some hx2
         by_cases eb : b = i
         · subst eb; exact absurd b5 ej
         · simp only [add] at b3
           rw [if_neg eb] at b3
           have := R.ex_of (l := l) (q := q) (Nat.le_refl _) b1 b2 b3 b4
           rw [<- b5, hx1] at this; simp at this
    rw [this]
 rw [hHS] at hrel
 refine ⟨hf.closed_add hc, by rw [zd2]; exact hdf, _, q, g1.trans hx, g2, ?_, ?_, ?_, hrel, ?_, ?_⟩
 · rcases g3 with g3 | ⟨e, e1, e2, e3⟩
   · exact .inl g3
   · exact .inr ⟨e, e1, e2, by simp only [add]; split <;> first | rfl | exact e3⟩
 · intro e h1 h2 h3
   simp only [add]
   rw [if_neg (fun e' => by subst e'; rw [hk] at h3; simp [Kind.isEff] at h3)]
   exact g4 e h1 h2 h3
 · intro j h1 h2
   simp only [add]
   split
   · rfl
   · exact g5 j h1 h2
 · intro j p hp
   simp only [Env.put] at hp
   split at hp
   · rename_i ej
     right
     rw [ej]
     exact ⟨_, R.ex_of (l := add l i) (q := q) (Nat.le_refl _) hi hk (by simp [add]) hqi⟩
   · rcases g7 j p hp with h1 | ⟨x, h1⟩
     · exact .inl h1
     · right
       obtain ⟨b, cs', b1, b2, b3, b4, b5, b6⟩ := R.ex_some h1
       rw [b5]
       exact ⟨_, R.ex_of (l := add l i) (q := q) (Nat.le_refl _) b1 b2 (by simp only [add]; split <;> first | rfl | exact b3) b4⟩
 · exact ((g8.mono hx.knows).put o.dst (hu _ (by simp [Env.put])) (R.dst i o ho)).congr (R.TS_add ho hli hlate)
end
end
theorem aat_mono {g g' : Nat -> Option AObj} (h : ∀ i x, g i = some x -> g' i = some x) {x : AV} {cs : List AV} (e : aat g x = some cs) : aat g' x = some cs := by
 unfold aat at e ⊢
 split at e
 · split at e
   · rename_i cs0 hi
     rw [h _ _ hi]; exact e
   · simp at e
 · exact e
 · simp at e
theorem zgg {g g' : Nat -> Option AObj} (h : ∀ i x, g i = some x -> g' i = some x) {z n : Nat} {x : AV} {cs : List AV} (e : zaK g z n x = some cs) : zaK g' z n x = some cs := by
 unfold zaK at e ⊢
 split at e
 · exact e
 · split at e
   · rename_i cs0 hi
     rw [h _ _ hi]; exact e
   · simp at e
 · exact e
 · exact e
 · simp at e
theorem ziO {P : Program} {g g' : Nat -> Option AObj} (h : ∀ i x, g i = some x -> g' i = some x) {t : TypeId} {x k : AV} {ok : Bool} {v : AV} (e : zdU P t g x k ok = some v) : zdU P t g' x k ok = some v := by
 unfold zdU at e ⊢
 split at e <;> try (simp at e; done)
 try simp only
 split at e <;> try (simp at e; done)
 try simp only
 split at e <;> try (simp at e; done)
 rename_i hk
 rw [if_pos hk]
 split at e
 · exact e
 · split at e <;> try (simp at e; done)
   rename_i es hes
   simp only [h _ _ hes]; exact e
 · simp at e
theorem ziN {P : Program} {g g' : Nat -> Option AObj} (h : ∀ i x, g i = some x -> g' i = some x) {t : TypeId} {x : AV} {v : AV} (e : zdT P t g x = some v) : zdT P t g' x = some v := by
 unfold zdT at e ⊢
 split at e <;> try (simp at e; done)
 try simp only
 split at e <;> try (simp at e; done)
 rename_i es hes
 simp only [h _ _ hes]; exact e
theorem aread_mono {P : Program} {ρ : Operand -> Option AV} {g g' : Nat -> Option AObj} (h : ∀ i x, g i = some x -> g' i = some x) {o : Oper} {v : AV} (e : aread P ρ g o = some v) : aread P ρ g' o = some v := by
 unfold aread at e ⊢
 split at e
 · split at e
   · split at e
     · rename_i cs hcs
       rw [aat_mono h hcs]; exact e
     · simp at e
   · simp at e
 · split at e
   · split at e
     · split at e
       · exact e
       · split at e
         · rename_i cs hcs
           simp only [zgg h hcs]; exact e
         · simp at e
       · split at e
         · rename_i cs hcs
           simp only [zgg h hcs]; exact e
         · simp at e
       · simp at e
     · simp at e
   · simp at e
 · split at e
   · exact ziO h e
   · simp at e
 · split at e
   · split at e
     · exact ziN h e
     · simp at e
   · simp at e
 · simp at e
section
variable {P : Program} {G : Nat -> Option AV} {N : Nat} {ops : Array Oper}
theorem eff_run {o : Oper} {T : Nat -> AV} {H H' : AHeap} {v : AV} {E : Env} {w : World} {a : Act} (h : (∃ e, aeff P (aval G T) H.get H.next o = some (v, e) /\ H' = H.eff e) \/ ∃ f args, zbf (aval G T) o = some (f, args) /\ Does P G f args H fun r h => r = v /\ h = H')
  (hR : Rel E H w) (hG : GRel E G) (hops : zaQ E (aval G T) a.eval o.op.operands.toList) {K : Act -> World -> Prop} {Q : Exit -> Act -> World -> Prop} (hK : ∀ E' u w', Ext E E' -> VRel E' v u -> Rel E' H' w' -> K (a.put o.dst u) w') : o.wp P a w K Q := by
 rcases h with ⟨e, h1, rfl⟩ | ⟨f, args, hc, hd⟩
 · obtain ⟨E', u, w', g1, g2, g3, g4⟩ := zaT hR hops h1
   exact zcz g4 (hK E' u w' g1 g2 g3)
 · obtain ⟨dst, op, ty, pos, after, guard⟩ := o
   unfold zbf at hc
   cases op <;> simp only at hc <;> try (simp at hc; done)
   rename_i c
   obtain ⟨callee, cargs, argTypes⟩ := c
   cases callee <;> simp only at hc <;> try (simp at hc; done)
   rename_i fo
   split at hc <;> try (simp at hc; done)
   rename_i k first captured as_ hf has
   simp only [Option.some.injEq, Prod.mk.injEq] at hc
   obtain ⟨rfl, rfl⟩ := hc
   have hops' : zaQ E (aval G T) a.eval (fo :: cargs.toList) := fun x hx b hb => hops x (by simpa [Op.operands, Call.operands] using hx) b hb
   have hfv := hops' fo (by simp) _ hf
   have hargs := zba (E := E) (σ := a.eval) (fun x hx => hops' x (by simp [hx])) has
   generalize hfe : a.eval fo = fv at hfv
   cases hfv with | func hf1 hc1 =>
   rename_i f2 c2
   have hrun : (execOp a.eval { dst, op := .call { callee := .value fo, args := cargs, argTypes }, type := ty, pos, after, guard }).run P w = (callFunc k (f2 ++ cargs.map a.eval ++ c2)).run P w := by
    simp [execOp, resolve, hfe, Deferred.ofValue, invoke]
   have hall : VRels E (first ++ as_ ++ captured) (f2 ++ cargs.map a.eval ++ c2).toList := by
    simp only [Array.toList_append, Array.toList_map]
    exact (hf1.append hargs).append hc1
   have hcl := hd.run E w _ hR hG hall
   simp only [Array.toArray_toList] at hcl
   unfold Oper.wp
   rw [hrun]
   rcases hcl with ⟨h1, h2⟩ | ⟨u, w', h1, r, H'', E', ⟨rfl, rfl⟩, g2, g3, g4⟩
   · rw [h1]
     refine h2.mono ?_
     rintro e w' ⟨u, rfl, r, H'', E', ⟨rfl, rfl⟩, g2, g3, g4⟩
     exact hK E' u w' g2 g3 g4
   · rw [h1]
     exact hK E' u w' g2 g3 g4
variable {R : Run P G N ops} {E0 : Env} {l : Nat -> Bool} {a : Act} {w : World} {i : Nat} {o : Oper}
theorem Inv.eff (h : Inv R E0 l a w) (hG : GRel E0 G) (hreal : ∀ i, i <= ops.size -> ∃ (E' : Env) (w' : World) (a' : Act), Ext E0 E' /\ Rel E' (R.H i) w' /\ TRel E' N (R.T i) a'.tmps) (hdom0 : ∀ j p, E0.φ j = some p -> j < (R.H 0).next)
  (ho : ops[i]? = some o) (hli : l i = false) (hf : Free ops l i) (hk : (R.k i).isEff = true) {K : Act -> World -> Prop} {Q : Exit -> Act -> World -> Prop} (hK : ∀ u w', Inv R E0 (add l i) (a.put o.dst u) w' -> K (a.put o.dst u) w') : o.wp P a w K Q := by
 have hlate := h.late ho hli
 have hslot : ∀ x ∈ o.op.operands.toList, aval G (R.TS l ops.size) x = aval G (R.T i) x := fun x hx => h.operand ho hli hf hx
 have hstep := R.step i o ho
 have hi := zdF ho
 obtain ⟨hc, hdf, E, q, g1, g2, g3, g4, g5, g6, g7, g8⟩ := h
 have hqi : q <= i := by
  rcases Nat.lt_or_ge i q with h1 | h1
  · have := g5 i h1 (.inl hk); rw [hli] at this; simp at this
  · exact h1
 have hahead : ∀ j, j < i -> ((R.k j).isEff = true \/ (R.k j).isAlloc = true) -> l j = true := fun j h1 h2 => hf.reach hc (R.effs j i h1 hi hk h2)
 have hnoeff : ∀ j, q <= j -> j < i -> (R.k j).isEff = false := fun j h1 h2 => by
  cases hkj : (R.k j).isEff with
  | false => rfl
  | true =>
    have e1 := hahead j h2 (.inl hkj)
    have e2 := g4 j h1 (by omega) hkj
    rw [e1] at e2; simp at e2
 have hHS : R.HS l q = (R.H i).over (R.X l i) := R.HS_eq i hqi (by omega) hnoeff (fun j _ h2 h3 => hahead j h2 (.inr h3))
 rw [hHS] at g6
 obtain ⟨Er, wr, ar, r1, r2, r3⟩ := hreal i (by omega)
 have hX : ∀ j x, (R.X l i).get j = some x -> (R.H i).next <= j := fun j x hj => by
  obtain ⟨b, cs, b1, b2, b3, b4, b5, b6⟩ := R.ex_some hj
  have := R.mono_le (i := i) b b4 (by omega); omega
 have hside := g6.aside hX (fun j x hj => r2.lt hj) (fun j x hj => r2.contents hj)
 have hopsE : zaQ (E.aside (R.X l i) w (R.H i).next) (aval G (R.T i)) a.eval o.op.operands.toList := by
  intro x hx b hb
  have hb' := hb
  rw [<- hslot x hx] at hb'
  have hv := g8.operands (hG.mono g1.knows) o.op.operands.toList x hx b hb'
  -- what it holds is old
  have hold := r3.operands (hG.mono r1.knows) o.op.operands.toList x hx b hb
  have hlt := VRel.idLt r2.dom hold
  exact VRel.mono (E := E.cut (R.H i).next) (E' := E.aside (R.X l i) w (R.H i).next) ⟨fun _ _ h => h, fun _ _ h => h⟩ (hv.cut hlt)
 have hG' : GRel (E.aside (R.X l i) w (R.H i).next) G := by
  refine hG.mono ⟨fun j p hj => ?_, fun B ob hB => g1.K B ob hB⟩
  have h1 := hdom0 j p hj
  have h2 := R.mono_le (i := 0) i (Nat.zero_le _) (by omega)
  simp only [Env.aside]
  rw [if_pos (by omega)]
  exact g1.φ j p hj
 generalize hki : R.k i = k at hstep hk
 cases k with
 | idle => simp [Kind.isEff] at hk
 | read => simp [Kind.isEff] at hk
 | alloc cs => simp [Kind.isEff] at hk
 | frz => simp [Kind.isEff] at hk
 | eff =>
 obtain ⟨_, hstep⟩ := hstep
 refine eff_run hstep hside hG' hopsE (fun E' u w' x1 x2 x3 => hK u w' ?_)
 have hn' : (R.H (i + 1)).next <= (R.X l i).next := R.mono_le (i := i + 1) ops.size (by omega) (Nat.le_refl _)
 have hqn := R.mono_le (i := q) i hqi (by omega)
 have hmono := R.mono i hi
 have early : ∀ j x, R.ex l q ops.size j = some x -> j < (R.H i).next \/ ((R.H (i + 1)).next <= j /\ R.ex (add l i) (i + 1) ops.size j = some x) := fun j x hj => by
  obtain ⟨b, cs, b1, b2, b3, b4, b5, b6⟩ := R.ex_some hj
  rcases Nat.lt_trichotomy b i with h2 | h2 | h2
  · have := R.alloc_lt (a := b) (b := i) h2 (by omega) b2; exact .inl (by omega)
  · subst h2; rw [hki] at b2; cases b2
  · have h3 := R.mono_le (i := i + 1) b (by omega) (by omega)
    refine .inr ⟨by omega, ?_⟩
    rw [b5, R.ex_of (l := add l i) (q := i + 1) (Nat.le_refl _) b1 b2 (by simp only [add]; split <;> first | rfl | exact b3) (by omega), b6]
 have hdom : ∀ j p, E.φ j = some p -> j < (R.H i).next \/ (R.H (i + 1)).next <= j := fun j p hj => by
  rcases g7 j p hj with h1 | ⟨x, h1⟩
  · exact .inl (by omega)
  · rcases early j x h1 with h2 | ⟨h2, _⟩
    · exact .inl h2
    · exact .inr h2
 obtain ⟨E2, y1, y2, y3, y4⟩ := g6.back hn' hdom x1 x3
 have hnew : (R.H (i + 1)).over (R.X l i) = R.HS (add l i) (i + 1) := by
  unfold Run.HS Run.X
  refine AHeap.ext' rfl fun j => ?_
  simp only [AHeap.over]
  rw [R.ex_congr (l := l) (l' := add l i) (q := i) (q' := i + 1) ops.size (fun b cs _ hkb => by
   have hne : b ≠ i := fun e => by subst e; rw [hki] at hkb; cases hkb
   simp only [add]
   rw [if_neg hne]
   constructor
   · rintro ⟨z1, z2⟩; exact ⟨z1, by omega⟩
   · rintro ⟨z1, z2⟩; exact ⟨z1, by omega⟩)]
 rw [hnew] at y3
 refine ⟨hf.closed_add hc, by rw [zd2]; exact hdf, E2, i + 1, g1.trans y1, hi, .inr ⟨i, rfl, by rw [hki]; rfl, by simp [add]⟩, ?_, ?_, y3, ?_, ?_⟩
 · intro e h1 h2 h3
   simp only [add]
   rw [if_neg (by omega)]
   exact g4 e (by omega) h2 h3
 · intro j h1 h2
   simp only [add]
   split
   · rfl
   · exact hahead j (by omega) h2
 · intro j p hp
   rcases y4 j p hp with h1 | h1
   · exact .inl h1
   · rcases g7 j p h1 with h2 | ⟨x, h2⟩
     · exact .inl (by omega)
     · rcases early j x h2 with h3 | ⟨_, h3⟩
       · exact .inl (by omega)
       · exact .inr ⟨x, h3⟩
 · exact ((g8.mono y1.knows).put o.dst (x2.mono y2) (R.dst i o ho)).congr (R.TS_add ho hli hlate)
theorem Inv.next (h : Inv R E0 l a w) (hG : GRel E0 G) (hreal : ∀ i, i <= ops.size -> ∃ (E' : Env) (w' : World) (a' : Act), Ext E0 E' /\ Rel E' (R.H i) w' /\ TRel E' N (R.T i) a'.tmps) (hdom0 : ∀ j p, E0.φ j = some p -> j < (R.H 0).next)
  (ho : ops[i]? = some o) (hli : l i = false) (hf : Free ops l i) {K : Act -> World -> Prop} {Q : Exit -> Act -> World -> Prop} (hK : ∀ u w', Inv R E0 (add l i) (a.put o.dst u) w' -> K (a.put o.dst u) w') : wpOp P ops Q i K a w := by
 have hwant := h.wanted ho hli hf
 have hslot : ∀ x ∈ o.op.operands.toList, aval G (R.TS l ops.size) x = aval G (R.T i) x := fun x hx => h.operand ho hli hf hx
 have hstep := R.step i o ho
 have hi := zdF ho
 obtain ⟨Eh, qh, k1, _, _, _, _, _, _, k8⟩ := h.ex
 have hw0 : Region.wanted o (yielded ops a.tmps) = zaH ops (R.T i) o := by rw [zd7 k8, hwant]
 have hopsOf : ∀ E, Ext E0 E -> TRel E N (R.TS l ops.size) a.tmps -> zaQ E (aval G (R.T i)) a.eval o.op.operands.toList := fun E x1 x2 x hx b hb => by
  rw [<- hslot x hx] at hb
  exact x2.operands (hG.mono x1.knows) o.op.operands.toList x hx b hb
 unfold wpOp
 rw [ho]
 simp only
 generalize hki : R.k i = k at hstep
 cases k with
 | idle =>
   obtain ⟨h1, h2⟩ := hstep
   rcases h1 with ⟨hn, hv⟩ | ⟨hn, hv⟩
   · rw [hw0, hn]
     exact hK _ _ (h.idle ho hli hf (by rw [hki]; rfl) (by rw [hki]; rfl) (fun E _ _ _ _ _ _ _ => by rw [hv]; exact zea E))
   · rw [hw0, hn, if_pos rfl]
     obtain ⟨u, g1, g2⟩ := zbA (P := P) (hopsOf Eh k1 k8) hv
     refine .inl (zcz (.inl (g2 w)) (hK _ _ (h.idle ho hli hf (by rw [hki]; rfl) (by rw [hki]; rfl) (fun E _ x1 _ _ _ _ x2 => ?_))))
     obtain ⟨u', g1', g2'⟩ := zbA (P := P) (hopsOf E x1 x2) hv
     have := (g2 w).symm.trans (g2' w)
     simp only [Result.ok.injEq, Next.value.injEq, and_true] at this
     rw [this]; exact g1'
 | read =>
   obtain ⟨hn, hv, _⟩ := hstep
   rw [hw0, hn, if_pos rfl]
   have hread : ∀ E q, Ext E0 E -> Rel E (R.HS l q) w -> q <= ops.size -> (q = 0 \/ ∃ e, q = e + 1 /\ (R.k e).isEff = true /\ l e = true) -> (∀ e, q <= e -> e < ops.size -> (R.k e).isEff = true -> l e = false) -> TRel E N (R.TS l ops.size) a.tmps -> Reads P E a.eval o (R.v i) w := by
    intro E q x1 x2 x3 x4 x5 x6
    -- the same over the heap with what has been laid ahead of its turn
    obtain ⟨Er, wr, ar, r1, r2, r3⟩ := hreal q x3
    have hget : ∀ j x, (R.H q).get j = some x -> (R.HS l q).get j = some x := fun j x hj => by
     refine AHeap.over_left (fun j' x' hj' => ?_) (r2.lt hj) hj
     obtain ⟨b, cs, b1, b2, b3, b4, b5, b6⟩ := R.ex_some hj'
     have := R.mono_le (i := q) b b4 (by omega); omega
    have hal : ∀ b x, q <= b -> R.k b = .alloc x -> Reach ops b i -> (R.HS l q).get (R.H b).next = some x := fun b x hq hk hr => by
     have hlb : l b = true := hf.reach h.closed hr
     have hbi : b < ops.size := by have := R.reach_lt hr; omega
     show (match R.ex l q ops.size (R.H b).next with | some x => some x | none => (R.H q).get (R.H b).next) = some x
     rw [R.ex_of (Nat.le_refl _) hbi hk hlb hq]
    have hrd := R.reads i o ho hki q x3 (by rcases x4 with x4 | ⟨e, e1, e2, _⟩; exact .inl x4; exact .inr ⟨e, e1, e2⟩)
     (fun e h1 h2 hr => by
       rcases x4 with x4 | ⟨e', e1, e2, e3⟩
       · omega
       · -- e or e' is done, so i is
         have hle : l e = true := by
          by_cases ee : e = e'
          · subst ee; exact e3
          · exact h.closed.reach (R.effs e e' (by omega) (by omega) e2 (.inl h2)) e3
         rw [h.closed.reach hr hle] at hli; simp at hli)
     (fun e h1 h2 h3 hr => by
       have := hf.reach h.closed hr
       rw [x5 e h1 h2 h3] at this; simp at this)
     (R.HS l q).get hget hal
    exact zcV x2 (hopsOf E x1 x6) hrd
   have hex : ∃ E, Reads P E a.eval o (R.v i) w := by
    obtain ⟨E, q, y1, y2, y3, y4, y5, y6, y7, y8⟩ := h.ex
    exact ⟨E, hread E q y1 y6 y2 y3 y4 y8⟩
   obtain ⟨Ex, u, g1, g2⟩ := hex
   clear g1
   refine .inl (zcz (.inl g2) (hK _ _ (h.idle ho hli hf (by rw [hki]; rfl) (by rw [hki]; rfl) (fun E q x1 x2 x3 x4 x5 x6 => ?_))))
   obtain ⟨u', g1', g2'⟩ := hread E q x1 x2 x3 x4 x5 x6
   have := g2.symm.trans g2'
   simp only [Result.ok.injEq, Next.value.injEq, and_true] at this
   rw [this]; exact g1'
 | alloc cs =>
   obtain ⟨hn, f, hal, hv, _⟩ := hstep
   rw [hw0, hn, if_pos rfl]
   obtain ⟨ob, u, w', q1, q2, q3, q4, q5, q6⟩ := zbs (P := P) (hopsOf Eh k1 k8) hal w
   refine .inl (zcz (.inl q1) (hK _ _ (h.alloc ho hli hf hki q2 q3 q4 (fun E _ x1 _ x2 => ?_) (fun E' hE' => by rw [hv]; exact q6 E' _ hE'))))
   obtain ⟨ob', u', w'', q1', q2', q3', q4', q5', q6'⟩ := zbs (P := P) (hopsOf E x1 x2) hal w
   have hww := q1.symm.trans q1'
   simp only [Result.ok.injEq, Next.value.injEq] at hww
   obtain ⟨_, rfl⟩ := hww
   rw [q2] at q2'
   have : ob = ob' := by
    have := congrArg (fun h : Array Obj => h[w.heap.size]?) q2'
    simpa using this
   subst this
   exact q5'
 | frz =>
   obtain ⟨hn, hv, _⟩ := hstep
   rw [hw0, hn, if_pos rfl]
   obtain ⟨ob, u, w', q1, q2, q3, q4, q5⟩ := zeI (P := P) (hopsOf Eh k1 k8) hv w
   refine .inl (zcz (.inl q1) (hK _ _ (h.frz ho hli hf (by rw [hki]; rfl) (by rw [hki]; rfl) q2 q3 q4 (fun E E' x1 x2 x3 x4 => ?_))))
   obtain ⟨ob', u', w'', q1', q2', q3', q4', q5'⟩ := zeI (P := P) (hopsOf E x1 x2) hv w
   have hww := q1.symm.trans q1'
   simp only [Result.ok.injEq, Next.value.injEq] at hww
   obtain ⟨rfl, rfl⟩ := hww
   rw [q2] at q2'
   have : ob = ob' := by
    have := congrArg (fun h : Array Obj => h[w.heap.size]?) q2'
    simpa using this
   subst this
   exact q5' E' x3 x4
 | eff =>
   rw [hw0, hstep.1, if_pos rfl]
   exact .inl (h.eff hG hreal hdom0 ho hli hf (by rw [hki]; rfl) hK)
theorem zf2 {listed : Array Bool} (hs : listed.size = ops.size) {i : Nat} : i ∈ Region.ready .any ops listed ↔ i < ops.size /\ listed.getD i false = false /\ Free ops (fun j => listed.getD j false) i := by
 unfold Region.ready Free
 rw [List.mem_filter, List.mem_range]
 constructor
 · rintro ⟨h1, h2⟩
   obtain ⟨o, ho⟩ := zc4 (ops := ops) h1
   have hl : i < listed.size := by omega
   simp [ho, hl] at h2
   obtain ⟨h3, h4⟩ := h2
   refine ⟨h1, by simp [hl, h3], fun q hq e he hb => ?_⟩
   rw [ho] at hq; cases hq
   obtain ⟨j, hj, rfl⟩ := Array.getElem_of_mem he
   rcases h4 j hj with h5 | h5
   · rw [hb] at h5; simp at h5
   · simpa using h5
 · rintro ⟨h1, h2, h3⟩
   obtain ⟨o, ho⟩ := zc4 (ops := ops) h1
   have hl : i < listed.size := by omega
   refine ⟨h1, ?_⟩
   simp [hl] at h2
   simp [ho, hl, h2]
   intro j hj
   cases hb : Region.binds .any o.after[j] with
   | false => exact .inl rfl
   | true => right; simpa using h3 o ho _ (Array.getElem_mem hj) hb
def zc0 (f : Nat -> Bool) : Nat -> Nat
 | 0 => 0
 | n + 1 => zc0 f n + (if f n then 0 else 1)
theorem zgv {f : Nat -> Bool} {i : Nat} (hf : f i = false) : ∀ {n : Nat}, i < n -> 0 < zc0 f n
 | n + 1, h => by
   simp only [zc0]
   by_cases e : i = n
   · subst e; simp [hf]
   · have := zgv hf (n := n) (by omega); omega
theorem zgw {f : Nat -> Bool} {i : Nat} (hf : f i = false) : ∀ n, (n <= i -> zc0 (add f i) n = zc0 f n) /\ (i < n -> zc0 (add f i) n + 1 = zc0 f n)
 | 0 => ⟨fun _ => rfl, fun h => by omega⟩
 | n + 1 => by
   obtain ⟨h1, h2⟩ := zgw hf n
   refine ⟨fun h => ?_, fun h => ?_⟩
   · simp only [zc0, h1 (by omega)]
     have : add f i n = f n := by simp only [add]; rw [if_neg (by omega)]
     rw [this]
   · simp only [zc0]
     by_cases e : n = i
     · subst e
       rw [h1 (Nat.le_refl _)]
       simp [add, hf]
     · have : add f i n = f n := by simp only [add]; rw [if_neg e]
       rw [this]
       have := h2 (by omega)
       omega
theorem wpAny_of (R : Run P G N ops) {E0 : Env} (hG : GRel E0 G) (hreal : ∀ i, i <= ops.size -> ∃ (E' : Env) (w' : World) (a' : Act), Ext E0 E' /\ Rel E' (R.H i) w' /\ TRel E' N (R.T i) a'.tmps) (hdom0 : ∀ j p, E0.φ j = some p -> j < (R.H 0).next)
  {Q : Exit -> (Nat -> AV) -> AHeap -> Prop} (hQ : Q .normal (R.T ops.size) (R.H ops.size)) :
  ∀ (fuel : Nat) (listed : Array Bool) (a : Act) (w : World), listed.size = ops.size -> zc0 (fun j => listed.getD j false) ops.size = fuel -> Inv R E0 (fun j => listed.getD j false) a w -> wpAny P .any ops (lift Q E0 N) fuel listed a w := by
 have full : ∀ (listed : Array Bool) (a : Act) (w : World), listed.size = ops.size -> Region.ready .any ops listed = [] -> Inv R E0 (fun j => listed.getD j false) a w -> lift Q E0 N .normal a w := by
  intro listed a w hs hready h
  -- all is done
  have all : ∀ i, i < ops.size -> listed.getD i false = true := by
   intro i
   induction i using Nat.strongRecOn with
   | _ i ih =>
     intro hi
     cases hl : listed.getD i false with
     | true => rfl
     | false =>
       obtain ⟨o, ho⟩ := zc4 (ops := ops) hi
       have : i ∈ Region.ready .any ops listed := (zf2 hs).2 ⟨hi, hl, fun q hq e he hb => by
        have hlt := R.back i q hq e he hb
        exact ih _ hlt (by omega)⟩
       rw [hready] at this; simp at this
  obtain ⟨hc, hdf, E, q, g1, g2, g3, g4, g5, g6, g7, g8⟩ := h
  have hHS := R.HS_eq (l := fun j => listed.getD j false) ops.size g2 (Nat.le_refl _) (fun j h1 h2 => by
   cases hk : (R.k j).isEff with
   | false => rfl
   | true => have := g4 j h1 h2 hk; simp only [all j h2] at this; simp at this) (fun j _ h2 _ => all j h2)
  have hend : R.HS (fun j => listed.getD j false) ops.size = R.H ops.size := by
   unfold Run.HS Run.X
   refine AHeap.ext' rfl fun j => ?_
   simp only [AHeap.over]
   have : R.ex (fun j => listed.getD j false) ops.size ops.size j = none := by
    cases hx : R.ex (fun j => listed.getD j false) ops.size ops.size j with
    | none => rfl
    | some x => obtain ⟨b, cs, b1, b2, b3, b4, _⟩ := R.ex_some hx; omega
   rw [this]
  rw [hHS, hend] at g6
  refine ⟨R.T ops.size, R.H ops.size, hQ, ⟨E, g1, g6, g8.congr fun t => ?_⟩, hdf⟩
  exact (R.TS_eq (Nat.le_refl _) (fun j o hj _ _ => all j hj) (fun j o hj ho _ => by have := zdF ho; omega)).symm
 intro fuel
 induction fuel with
 | zero =>
   intro listed a w hs hf h
   have hnil : Region.ready .any ops listed = [] := by
    cases hr : Region.ready .any ops listed with
    | nil => rfl
    | cons i r =>
      have hi : i ∈ Region.ready .any ops listed := by rw [hr]; simp
      obtain ⟨h1, h2, _⟩ := (zf2 hs).1 hi
      have := zgv (f := fun j => listed.getD j false) h2 h1
      omega
   exact ⟨hnil, full listed a w hs hnil h⟩
 | succ fuel ih =>
   intro listed a w hs hf h
   refine ⟨fun hnil => full listed a w hs hnil h, fun i hi => ?_⟩
   obtain ⟨h1, h2, h3⟩ := (zf2 hs).1 hi
   obtain ⟨o, ho⟩ := zc4 (ops := ops) h1
   refine h.next hG hreal hdom0 ho h2 h3 (fun u w' hinv => ?_)
   have hadd : (fun j => (listed.setIfInBounds i true).getD j false) = add (fun j => listed.getD j false) i := by
    funext j
    simp only [add]
    split
    · rename_i e; subst e
      have : j < listed.size := by omega
      simp [this]
    · rename_i e
      simp [Array.getElem?_setIfInBounds_ne (fun e' => e e'.symm)]
   have hcount : zc0 (fun j => (listed.setIfInBounds i true).getD j false) ops.size = fuel := by
    rw [hadd]
    have := (zgw (f := fun j => listed.getD j false) h2 ops.size).2 h1
    omega
   refine ih _ _ _ (by simp [hs]) hcount ?_
   rw [hadd]
   exact hinv
end
theorem aw_draw {P : Program} {G : Nat -> Option AV} {N : Nat} {ops : Array Oper} {Q : Exit -> (Nat -> AV) -> AHeap -> Prop} {T : Nat -> AV} {H : AHeap} {id : Nat} (hm : P.follows .mixedOrders = true)
  (R : Run P G N ops) (hT : R.T 0 = T) (hH : R.H 0 = H) (hQ : Q .normal (R.T ops.size) (R.H ops.size)) : AW P G N (.region id ops true) Q T H := by
 subst hT; subst hH
 intro E0 a w hG hs
 obtain ⟨⟨E, hx, hR, hTr⟩, hdf⟩ := hs
 refine wp_region_any hm ?_
 have hreal : ∀ i, i <= ops.size -> ∃ (E' : Env) (w' : World) (a' : Act), Ext E0 E' /\ Rel E' (R.H i) w' /\ TRel E' N (R.T i) a'.tmps := fun i hi => by
  obtain ⟨E', w', a', h1, h2, h3⟩ := R.real (hG.mono hx.knows) hR hTr i hi
  exact ⟨E', w', a', hx.trans h1, h2, h3⟩
 have hdom0 : ∀ j p, E0.φ j = some p -> j < (R.H 0).next := fun j p hj => hR.dom j p (hx.φ j p hj)
 have hR' : Rel E (R.H 0) { w with drawn := w.drawn + 1 } := hR.drew
 have hl : ∀ j, (Array.replicate ops.size false).getD j false = false := fun j => by
  simp only [Array.getD_eq_getD_getElem?, Array.getElem?_replicate]
  split <;> rfl
 have hfl : (fun j => (Array.replicate ops.size false).getD j false) = fun _ => false := funext hl
 have hcnt : ∀ n, zc0 (fun _ => false) n = n := by
  intro n
  induction n with
  | zero => rfl
  | succ n ih => simp [zc0, ih]
 refine wpAny_of R hG hreal hdom0 hQ ops.size _ a _ (by simp) (by rw [hfl]; exact hcnt _) ?_
 · rw [hfl]
   have hex : ∀ k i, R.ex (fun _ => false) 0 k i = none := by
    intro k
    induction k with
    | zero => intro i; rfl
    | succ k ih =>
      intro i
      simp only [Run.ex]
      split
      · rw [if_neg (by simp)]; exact ih i
      · exact ih i
   have hTS : ∀ k, R.TS (fun _ => false) k = R.T 0 := by
    intro k
    induction k with
    | zero => rfl
    | succ k ih =>
      simp only [Run.TS, ih]
      split <;> simp
   refine ⟨fun j o _ h => by simp at h, hdf, E, 0, hx, Nat.zero_le _, .inl rfl, fun _ _ _ _ => rfl, fun j h => by omega, ?_, fun i p hp => .inl (hR.dom i p hp), ?_⟩
   · refine hR'.sub (R.mono_le (i := 0) ops.size (Nat.zero_le _) (Nat.le_refl _)) fun i x hi => ?_
     simp only [Run.HS, Run.X, AHeap.over, hex] at hi
     exact hi
   · rw [hTS]; exact hTr
/-! ### static checks of a region -/
def backOk (ops : List Oper) : Bool := ops.zipIdx.all fun (o, i) => o.after.toList.all fun e => !Region.binds .any e || decide (e.on < i)
def zex : List Oper -> List Nat -> List Nat
 | [], acc => acc
 | o :: r, acc => zex r (acc ++ [o.after.toList.foldl (fun s e => if Region.binds .any e then s ||| 2 ^ e.on ||| acc.getD e.on 0 else s) 0])
def ancs (ops : List Oper) : List Nat := zex ops []
theorem ziw {ops : Array Oper} {acc : List Nat} {j : Nat} {o : Oper} (ho : ops[j]? = some o) (hacc : ∀ k i, k < j -> (acc.getD k 0).testBit i = true -> Reach ops i k) (hlen : acc.length = j) :
  ∀ (es : List Edge) (s : Nat), (∀ e ∈ es, e ∈ o.after) -> (∀ i, s.testBit i = true -> Reach ops i j) -> ∀ i, (es.foldl (fun s e => if Region.binds .any e then s ||| 2 ^ e.on ||| acc.getD e.on 0 else s) s).testBit i = true -> Reach ops i j
 | [], s, _, hs, i, h => hs i h
 | e :: es, s, he, hs, i, h => by
   simp only [List.foldl_cons] at h
   refine ziw ho hacc hlen es _ (fun e' h' => he e' (by simp [h'])) (fun i' h' => ?_) i h
   split at h'
   · rename_i hb
     simp only [Nat.testBit_or, Bool.or_eq_true, Nat.testBit_two_pow, decide_eq_true_eq] at h'
     have hedge : Reach ops e.on j := .edge ho (he e (by simp)) hb rfl
     rcases h' with (h' | h') | h'
     · exact hs i' h'
     · rw [<- h']; exact hedge
     · by_cases hlt : e.on < j
       · exact .trans (hacc _ _ hlt h') hedge
       · have : acc.getD e.on 0 = 0 := by
          simp only [List.getD]
          rw [List.getElem?_eq_none (by omega)]; rfl
         rw [this] at h'; simp at h'
   · exact hs i' h'
theorem zdK {ops : Array Oper} : ∀ (r : List Oper) (acc : List Nat), (∀ k o, r[k]? = some o -> ops[acc.length + k]? = some o) -> (∀ k i, k < acc.length -> (acc.getD k 0).testBit i = true -> Reach ops i k) ->
  ∀ k i, ((zex r acc).getD k 0).testBit i = true -> Reach ops i k
 | [], acc, _, hacc, k, i, h => by
   simp only [zex] at h
   by_cases hk : k < acc.length
   · exact hacc k i hk h
   · have : acc.getD k 0 = 0 := by
      simp only [List.getD]
      rw [List.getElem?_eq_none (by omega)]; rfl
     rw [this] at h; simp at h
 | o :: r, acc, hr, hacc, k, i, h => by
   simp only [zex] at h
   refine zdK r _ (fun k' o' ho' => ?_) (fun k' i' hk' h' => ?_) k i h
   · have := hr (k' + 1) o' (by simpa using ho')
     simpa [Nat.add_assoc, Nat.add_comm 1 k'] using this
   · simp only [List.length_append, List.length_cons, List.length_nil] at hk'
     by_cases e : k' = acc.length
     · subst e
       have e1 : ∀ x : Nat, (acc ++ [x]).getD acc.length 0 = x := fun x => by simp
       rw [e1] at h'
       exact ziw (hr 0 o rfl) hacc rfl _ 0 (fun e he => by simpa using he) (fun i h => by simp at h) i' h'
     · have e1 : ∀ x : Nat, (acc ++ [x]).getD k' 0 = acc.getD k' 0 := fun x => by
        simp only [List.getD]; rw [List.getElem?_append_left (by omega)]
       rw [e1] at h'
       exact hacc k' i' (by omega) h'
theorem zcB {ops : Array Oper} {j i : Nat} (h : ((ancs ops.toList).getD j 0).testBit i = true) : Reach ops i j :=
 zdK ops.toList [] (fun k o ho => by simpa using ho) (fun k i hk => by simp at hk) j i h
def zjh (ops : Array Oper) (as_ : List Nat) : Bool :=
 ops.toList.zipIdx.all fun (q, j) => ops.toList.zipIdx.all fun (o, i) => !decide (i < j) || o.apart ops q || (as_.getD j 0).testBit i
def dstOk (N : Nat) (ops : List Oper) : Bool := ops.all fun o => match o.dst with | some d => decide (d < N) | none => true
theorem mem_zipIdx {α : Type} {l : List α} {i : Nat} {x : α} (h : l[i]? = some x) : (x, i) ∈ l.zipIdx := by
 rw [List.mem_zipIdx_iff_getElem?]; exact h
theorem zjF {ops : Array Oper} (h : backOk ops.toList = true) : ∀ i o, ops[i]? = some o -> ∀ e ∈ o.after, Region.binds .any e = true -> e.on < i := by
 intro i o ho e he hb
 unfold backOk at h
 rw [List.all_eq_true] at h
 have := h (o, i) (mem_zipIdx (by simpa using ho))
 simp only [List.all_eq_true] at this
 have := this e (by simpa using he)
 rw [hb] at this
 simpa using this
theorem zhT {ops : Array Oper} (h : zjh ops (ancs ops.toList) = true) : ∀ i j o q, i < j -> ops[i]? = some o -> ops[j]? = some q -> (o.apart ops q = false) -> Reach ops i j := by
 intro i j o q hij ho hq ha
 unfold zjh at h
 rw [List.all_eq_true] at h
 have := h (q, j) (mem_zipIdx (by simpa using hq))
 simp only [List.all_eq_true] at this
 have := this (o, i) (mem_zipIdx (by simpa using ho))
 simp only [hij, ha] at this
 exact zcB (by simpa using this)
theorem dstOk_spec {N : Nat} {ops : Array Oper} (h : dstOk N ops.toList = true) : ∀ (i : Nat) o, ops[i]? = some o -> ∀ d, o.dst = some d -> d < N := by
 intro i o ho d hd
 unfold dstOk at h
 rw [List.all_eq_true] at h
 have := h o (List.mem_of_getElem? (i := i) (by simpa using ho))
 rw [hd] at this
 simpa using this
/-! ### equality of abstract values -/
mutual
def AV.beq : AV -> AV -> Bool
 | .bool a, .bool b => a == b
 | .int k a, .int k' b => decide (k = k') && decide (a = b)
 | .str a, .str b => decide (a = b)
 | .nilptr, .nilptr => true
 | .ptr i o, .ptr i' o' => decide (i = i') && decide (o = o')
 | .vptr a, .vptr b => AV.beqs a b
 | .nilsl, .nilsl => true
 | .sl i o z l c p, .sl i' o' z' l' c' p' => decide (i = i') && decide (o = o') && decide (z = z') && decide (l = l') && decide (c = c') && (p == p')
 | .vsl a l, .vsl b l' => AV.beqs a b && decide (l = l')
 | .nilmap, .nilmap => true
 | .map i, .map j => decide (i = j)
 | .func f a c, .func f' a' c' => decide (f = f') && AV.beqs a a' && AV.beqs c c'
 | .nilfunc, .nilfunc => true
 | .iface t a, .iface t' a' => decide (t = t') && AV.beq a a'
 | .niliface, .niliface => true
 | .agg a, .agg b => AV.beqs a b
 | .tuple a, .tuple b => AV.beqs a b
 | .csl a l, .csl b l' => AV.beqs a b && decide (l = l')
 | _, _ => false
def AV.beqs : List AV -> List AV -> Bool
 | [], [] => true
 | a :: as_, b :: bs => AV.beq a b && AV.beqs as_ bs
 | _, _ => false
end
mutual
theorem AV.beq_eq : ∀ (a b : AV), AV.beq a b = true -> a = b
 | .bool a, b, h => by cases b <;> simp_all [AV.beq]
 | .int k a, b, h => by cases b <;> simp_all [AV.beq]
 | .str a, b, h => by cases b <;> simp_all [AV.beq]
 | .nilptr, b, h => by cases b <;> simp_all [AV.beq]
 | .ptr i o, b, h => by cases b <;> simp_all [AV.beq]
 | .vptr a, b, h => by
   cases b <;> simp [AV.beq] at h
   rw [AV.beqs_eq _ _ h]
 | .nilsl, b, h => by cases b <;> simp_all [AV.beq]
 | .sl i o z l c p, b, h => by cases b <;> simp_all [AV.beq]
 | .vsl a l, b, h => by
   cases b <;> simp [AV.beq] at h
   rw [AV.beqs_eq _ _ h.1, h.2]
 | .nilmap, b, h => by cases b <;> simp_all [AV.beq]
 | .map i, b, h => by cases b <;> simp_all [AV.beq]
 | .func f a c, b, h => by
   cases b <;> simp [AV.beq] at h
   rw [h.1.1, AV.beqs_eq _ _ h.1.2, AV.beqs_eq _ _ h.2]
 | .nilfunc, b, h => by cases b <;> simp_all [AV.beq]
 | .iface t a, b, h => by
   cases b <;> simp [AV.beq] at h
   rw [h.1, AV.beq_eq _ _ h.2]
 | .niliface, b, h => by cases b <;> simp_all [AV.beq]
 | .agg a, b, h => by
   cases b <;> simp [AV.beq] at h
   rw [AV.beqs_eq _ _ h]
 | .tuple a, b, h => by
   cases b <;> simp [AV.beq] at h
   rw [AV.beqs_eq _ _ h]
 | .csl a l, b, h => by
   cases b <;> simp [AV.beq] at h
   rw [AV.beqs_eq _ _ h.1, h.2]
theorem AV.beqs_eq : ∀ (a b : List AV), AV.beqs a b = true -> a = b
 | [], b, h => by cases b <;> simp_all [AV.beqs]
 | a :: as_, b, h => by
   cases b <;> simp [AV.beqs] at h
   rw [AV.beq_eq _ _ h.1, AV.beqs_eq _ _ h.2]
end
def Kind.isRead : Kind -> Bool
 | .read => true
 | _ => false
def zd1 (N : Nat) (ops : Array Oper) : Bool := backOk ops.toList && zjh ops (ancs ops.toList) && dstOk N ops.toList
section
end
end Go.Abs
namespace Go.Abs
open Go Go.RowKit Go.WideShapes Go.ChangeShapes
structure Olds (W W' : World) : Prop where
 os : W'.os = W.os
 output : W'.output = W.output
 block : ∀ k, k < W.heap.size -> W'.heap[k]? = W.heap[k]?
theorem Olds.frame {W w' : World} (h : Olds W w') (may : MemPlace -> Prop) : W.keptBut w' may := by
 refine ⟨h.os, h.output, fun i hi => ?_⟩
 rw [h.block i hi]
 split <;> simp_all
theorem Olds.same {W w' : World} (h : Olds W w') {p : MemPlace} (hp : p.block < W.heap.size) : W.sameAt w' p := by
 cases p with
 | cell b o => exact World.cell?_of_block (w := W) (h.block b hp)
 | map b => exact h.block b hp
section
variable {H : Type} {enc : TypeId × Value -> H} {P : Program}
theorem zic {f : Func} {s : ChangeSpec} {apart fresh handsOn again : Bool} {W W' : World} {args : Array Value} {v : Value} {ds gs : List (DataW H)} {before pa pv : List MemPlace}
  (hW : DataW.Whole enc P f.params.toList s.vars apart W args.toList ds gs before)
  (hres : ∀ (b : Nat) (sp : Nat -> Bool) (hd : Bool), DataW.TrodAll enc P W' b sp hd f.resultTypes.toList (v.resultList f.resultTypes.size) (s.fn H (ds ++ gs)).results [])
  (hargs : ∀ sp : Nat -> Bool, (∀ p ∈ before, sp p.block = true) -> DataW.TrodAll enc P W' 0 sp true f.params.toList args.toList (s.fn H (ds ++ gs)).args pa)
  (hvars : ∀ sp : Nat -> Bool, (∀ p ∈ before, sp p.block = true) -> DataW.TrodVars enc P W' sp s.vars (s.fn H (ds ++ gs)).vars pv)
  (hps : before = pa ++ pv) (hb : Olds W W')
  (hok : ∀ (j : Nat) (t : TypeId) (r : Value), f.resultTypes[j]? = some t -> (v.resultList f.resultTypes.size)[j]? = some r -> Value.okWide P W' .any 0 t r) :
  s.post enc P f apart fresh handsOn again W args v W' := by
 have hlt : ∀ p ∈ before, p.block < W.heap.size := fun p hp => hW.lt p hp
 have hold : ∀ p ∈ before, (fun b => decide (b < W.heap.size)) p.block = true := fun p hp => by simpa using hlt p hp
 refine ⟨ds, gs, before, [], pa, pv, hW, hres _ _ _, hargs _ hold, hvars _ hold, World.keptBut_mono (fun p hp => ⟨hp, ?_⟩) (hb.frame (· ∈ before)), fun _ => ?_⟩
 · rw [hps, List.mem_append] at hp
   exact Or.inr hp
 · obtain ⟨_, _, _, _, _, hz, hn⟩ := hW
   refine ⟨hok, _, _, ([] ++ pa) ++ pv, ⟨[] ++ pa, pv, trodAll_append (hargs _ (fun _ _ => rfl)) (hres _ _ _), hvars _ (fun _ _ => rfl), rfl, ?_, ?_⟩, ?_⟩
   · intro b off hp
     have hin : MemPlace.cell b off ∈ before := by rw [hps]; simpa using hp
     have : W'.frozen? { block := b, off := off } = W.frozen? { block := b, off := off } := World.frozen?_of_block (w := W) (h := hb.block b (hlt _ hin))
     rw [this]
     exact hz b off hin
   · intro ha
     have := hn ha
     rw [hps] at this
     simpa using this
   · intro p hp _
     rw [hps]
     simpa using hp
end
def Env.start (w : World) : Env := { φ := fun _ => none, K := fun B => w.heap[B]?, F := fun _ => none, os := w.os, out := w.output }
theorem Rel.start (w : World) (n : Nat) : Rel (Env.start w) (AHeap.empty n) w :=
 ⟨rfl, rfl, fun _ _ h => h, fun _ _ h => by simp [Env.start] at h, fun _ => .inr rfl, fun _ _ h => by simp [Env.start] at h, fun _ _ h => by simp [AHeap.empty] at h, fun _ _ _ _ _ _ h => by simp [AHeap.empty] at h⟩
theorem olds_of {w w' : World} {E' : Env} {H' : AHeap} (hx : Ext (Env.start w) E') (h : Rel E' H' w') : Olds w w' := by
 refine ⟨h.os.trans hx.os, h.out.trans hx.out, fun k hk => ?_⟩
 have h1 : (Env.start w).K k = some w.heap[k] := Array.getElem?_eq_getElem hk
 rw [h.K _ _ (hx.K _ _ h1)]
 exact h1.symm
theorem Does.yes {P : Program} {G : Nat -> Option AV} {f : FuncId} {args : List AV} {n : Nat} {R : AV -> AHeap -> Prop} (he : ziY P f) (h : Does P G f args (AHeap.empty n) R) (hR : ∀ r H, R r H -> r = .bool true) (w : World) (hG : GRel (Env.start w) G) {vs : List Value} (hv : VRels (Env.start w) args vs) :
  Calls P f vs.toArray w fun e w' => e = .returned (.bool true) /\ Olds w w' := by
 have hc : Calls P f vs.toArray w fun e w' => ∃ v, e = .returned v /\ Ends (Env.start w) R v w' := by
  rcases h.run _ w vs (Rel.start w n) hG hv with ⟨_, h2⟩ | ⟨v, w', h1, _⟩
  · exact h2
  · rw [he] at h1; cases h1
 refine hc.mono ?_
 rintro e w' ⟨v, rfl, r, H', E', g1, g2, g3, g4⟩
 have := hR _ _ g1
 subst this
 cases g3
 exact ⟨rfl, olds_of g2 g4⟩
end Go.Abs
namespace Go.Abs
open Go
class Hid (α : Type) where
 v : α
abbrev Post := Exit -> (Nat -> AV) -> AHeap -> Prop
def altO {α : Type} (x : Option α) [k : Hid (α -> Prop)] [y : Hid Prop] : Prop := match x with
 | some a => k.v a
 | none => y.v
def condA (b : Bool) [x : Hid (Unit -> Prop)] [y : Hid (Unit -> Prop)] : Prop := if b = true then x.v () else y.v ()
def condV (v : Option AV) [x : Hid (Unit -> Prop)] [y : Hid (Unit -> Prop)] : Prop := match v with
 | some (.bool b) => @condA b x y
 | _ => False
def DoesH (P : Program) (G : Nat -> Option AV) (f : FuncId) (args : List AV) (H : AHeap) [R : Hid (AV -> AHeap -> Prop)] : Prop := Does P G f args H R.v
theorem zaa {P : Program} {G : Nat -> Option AV} {f : FuncId} {args : List AV} {H : AHeap} {R : AV -> AHeap -> Prop} {R' : Hid (AV -> AHeap -> Prop)} (h : Does P G f args H R) (g : ∀ r H', R r H' -> R'.v r H') : @DoesH P G f args H R' := h.mono g
structure Ctx where
 P : Program
 G : Nat -> Option AV
 N : Nat
def ALr (X : Ctx) (ops : Array Oper) (Q : Post) : List Oper -> (Nat -> AV) -> AHeap -> Prop
 | [], T, H => Q .normal T H
 | o :: r, T, H =>
   (match o.dst with | some d => d < X.N | none => True) /\
   @condA (zaH ops T o)
    ⟨fun _ => @altO _ (zbf (aval X.G T) o) ⟨fun fa => @DoesH X.P X.G fa.1 fa.2 H ⟨fun x H' => ALr X ops Q r (tput T o.dst x) H'⟩⟩
     ⟨@altO _ (aop X.P (aval X.G T) H.get H.next o) ⟨fun ve => ALr X ops Q r (tput T o.dst ve.1) (H.eff ve.2)⟩ ⟨False⟩⟩⟩
    ⟨fun _ => ALr X ops Q r (tput T o.dst zbt) H⟩
def ALf [X : Hid Ctx] [ops : Hid (Array Oper)] [Q : Hid Post] [l : Hid (List Oper)] [T : Hid (Nat -> AV)] (H : AHeap) : Prop := ALr X.v ops.v Q.v l.v T.v H
theorem al_of {X : Ctx} {ops : Array Oper} {Q : Post} : ∀ {l : List Oper} {T : Nat -> AV} {H : AHeap}, ALr X ops Q l T H -> AL X.P X.G X.N ops l Q T H
 | [], T, H, h => al_nil h
 | o :: r, T, H, h => by
   obtain ⟨hd, h⟩ := h
   have hd' : ∀ k, o.dst = some k -> k < X.N := fun k hk => by rw [hk] at hd; exact hd
   unfold condA at h
   split at h
   · rename_i hw
     simp only at h
     unfold altO at h
     split at h
     · rename_i fa hc
       exact al_call hw hd' hc (h.mono fun x H' hx => al_of hx)
     · simp only at h
       split at h
       · rename_i ve ho
         exact al_op hw hd' ho (al_of h)
       · exact h.elim
   · rename_i hw
     exact al_skip (by simpa using hw) hd' (al_of h)
def AWs [X : Hid Ctx] [c : Hid Code] [Q : Hid Post] [T : Hid (Nat -> AV)] (H : AHeap) : Prop := AW X.v.P X.v.G X.v.N c.v Q.v T.v H
def AWr (X : Ctx) : Code -> Post -> (Nat -> AV) -> AHeap -> Prop
 | .skip, Q, T, H => Q .normal T H
 | .region _ ops false, Q, T, H => ALr X ops Q ops.toList T H
 | .seq a b, Q, T, H => AWr X a (QThen (fun T H => AWr X b Q T H) Q) T H
 | .cond c x y, Q, T, H => @condV (aval X.G T c) ⟨fun _ => AWr X x Q T H⟩ ⟨fun _ => AWr X y Q T H⟩
 | .block id c, Q, T, H => AWr X c (zgi id Q) T H
 | .exit id, Q, T, H => Q (.exit id) T H
 | .ret, Q, T, H => Q .ret T H
 | c, Q, T, H => AW X.P X.G X.N c Q T H
def AWf [X : Hid Ctx] [c : Hid Code] [Q : Hid Post] [T : Hid (Nat -> AV)] (H : AHeap) : Prop := AWr X.v c.v Q.v T.v H
def PQ [Q : Hid Post] [e : Hid Exit] [T : Hid (Nat -> AV)] (H : AHeap) : Prop := Q.v e.v T.v H
theorem aw_of {X : Ctx} : ∀ {c : Code} {Q : Post} {T : Nat -> AV} {H : AHeap}, AWr X c Q T H -> AW X.P X.G X.N c Q T H
 | .skip, Q, T, H, h => aw_skip h
 | .region _ ops false, Q, T, H, h => aw_region (al_of h)
 | .region _ ops true, Q, T, H, h => h
 | .seq a b, Q, T, H, h => by
   refine aw_seq (AW.mono (aw_of (c := a) h) ?_)
   intro e T' H' hq
   cases e <;> first | exact aw_of (c := b) hq | exact hq
 | .cond c x y, Q, T, H, h => by
   simp only [AWr] at h
   unfold condV at h
   split at h
   · rename_i b hb
     cases b
     · exact aw_cond hb (aw_of (by simpa [condA] using h))
     · exact aw_cond hb (aw_of (by simpa [condA] using h))
   · exact h.elim
 | .block id c, Q, T, H, h => aw_block (aw_of h)
 | .exit id, Q, T, H, h => aw_exit h
 | .ret, Q, T, H, h => aw_ret h
 | .loop c, Q, T, H, h => h
 | .rangeFunc .., Q, T, H, h => h
 | .scope _, Q, T, H, h => h
 | .label _, Q, T, H, h => h
 | .goto _, Q, T, H, h => h
 | .refuse _, Q, T, H, h => h
theorem awf_of {X : Ctx} {c : Code} {Q : Post} {T : Nat -> AV} {H : AHeap} (h : @AWf ⟨X⟩ ⟨c⟩ ⟨Q⟩ ⟨T⟩ H) : AW X.P X.G X.N c Q T H := aw_of h
def FEnd [P : Hid Program] [rs : Hid (List ResultVar)] [R : Hid (AV -> AHeap -> Prop)] [e : Hid Exit] [T : Hid (Nat -> AV)] (H : AHeap) : Prop :=
 (e.v = .normal \/ e.v = .ret) /\ @altO _ (ares P.v T.v H.get rs.v) ⟨fun r => R.v r H⟩ ⟨False⟩
def fpost (P : Program) (rs : List ResultVar) (R : AV -> AHeap -> Prop) : Post := fun e T H => @FEnd ⟨P⟩ ⟨rs⟩ ⟨R⟩ ⟨e⟩ ⟨T⟩ H
theorem zaf {P : Program} {G : Nat -> Option AV} {f : FuncId} {fn : Func} {c : Code} {args : List AV} {H : AHeap} {R : AV -> AHeap -> Prop} (he : ziY P f) (hf : P.funcs[f]? = some fn) (hb : fn.body = some c) (hn : args.length <= fn.ntmps)
  (h : @AWf ⟨⟨P, G, fn.ntmps⟩⟩ ⟨c⟩ ⟨fpost P fn.results.toList R⟩ ⟨fun t => args.getD t zbt⟩ H) : Does P G f args H R :=
 does_of he hf hb hn (AW.mono (awf_of h) fun e T' H' ⟨h1, h2⟩ => ⟨h1, by
  unfold altO at h2
  split at h2
  · rename_i r hr; exact ⟨r, hr, h2⟩
  · exact h2.elim⟩)
section
variable {X : Ctx} {Q : Post} {T : Nat -> AV} {H : AHeap}
@[simp] theorem altO_some {α : Type} (a : α) (k : α -> Prop) (y : Hid Prop) : @altO α (some a) ⟨k⟩ y = k a := Eq.trans rfl rfl
@[simp] theorem altO_none {α : Type} (k : Hid (α -> Prop)) (y : Prop) : @altO α none k ⟨y⟩ = y := Eq.trans rfl rfl
@[simp] theorem condA_true (x : Unit -> Prop) (y : Hid (Unit -> Prop)) : @condA true ⟨x⟩ y = x () := Eq.trans rfl rfl
@[simp] theorem condA_false (x : Hid (Unit -> Prop)) (y : Unit -> Prop) : @condA false x ⟨y⟩ = y () := Eq.trans rfl rfl
@[simp] theorem condV_true (x : Unit -> Prop) (y : Hid (Unit -> Prop)) : @condV (some (.bool true)) ⟨x⟩ y = x () := Eq.trans rfl rfl
@[simp] theorem condV_false (x : Hid (Unit -> Prop)) (y : Unit -> Prop) : @condV (some (.bool false)) x ⟨y⟩ = y () := Eq.trans rfl rfl
@[simp] theorem awf_skip : @AWf ⟨X⟩ ⟨.skip⟩ ⟨Q⟩ ⟨T⟩ H = @PQ ⟨Q⟩ ⟨.normal⟩ ⟨T⟩ H := Eq.trans rfl rfl
@[simp] theorem awf_region {id : Nat} {l : List Oper} : @AWf ⟨X⟩ ⟨.region id l.toArray false⟩ ⟨Q⟩ ⟨T⟩ H = @ALf ⟨X⟩ ⟨l.toArray⟩ ⟨Q⟩ ⟨l⟩ ⟨T⟩ H := Eq.trans rfl rfl
@[simp] theorem awf_drawn {id : Nat} {ops : Array Oper} : @AWf ⟨X⟩ ⟨.region id ops true⟩ ⟨Q⟩ ⟨T⟩ H = @AWs ⟨X⟩ ⟨.region id ops true⟩ ⟨Q⟩ ⟨T⟩ H := Eq.trans rfl rfl
@[simp] theorem awf_loop {c : Code} : @AWf ⟨X⟩ ⟨.loop c⟩ ⟨Q⟩ ⟨T⟩ H = @AWs ⟨X⟩ ⟨.loop c⟩ ⟨Q⟩ ⟨T⟩ H := Eq.trans rfl rfl
@[simp] theorem awf_seq {a b : Code} : @AWf ⟨X⟩ ⟨.seq a b⟩ ⟨Q⟩ ⟨T⟩ H = @AWf ⟨X⟩ ⟨a⟩ ⟨QThen (fun T H => @AWf ⟨X⟩ ⟨b⟩ ⟨Q⟩ ⟨T⟩ H) Q⟩ ⟨T⟩ H := Eq.trans rfl rfl
@[simp] theorem awf_cond {c : Operand} {x y : Code} : @AWf ⟨X⟩ ⟨.cond c x y⟩ ⟨Q⟩ ⟨T⟩ H = @condV (aval X.G T c) ⟨fun _ => @AWf ⟨X⟩ ⟨x⟩ ⟨Q⟩ ⟨T⟩ H⟩ ⟨fun _ => @AWf ⟨X⟩ ⟨y⟩ ⟨Q⟩ ⟨T⟩ H⟩ := Eq.trans rfl rfl
@[simp] theorem awf_block {id : Nat} {c : Code} : @AWf ⟨X⟩ ⟨.block id c⟩ ⟨Q⟩ ⟨T⟩ H = @AWf ⟨X⟩ ⟨c⟩ ⟨zgi id Q⟩ ⟨T⟩ H := Eq.trans rfl rfl
@[simp] theorem awf_exit {id : Nat} : @AWf ⟨X⟩ ⟨.exit id⟩ ⟨Q⟩ ⟨T⟩ H = @PQ ⟨Q⟩ ⟨.exit id⟩ ⟨T⟩ H := Eq.trans rfl rfl
@[simp] theorem awf_ret : @AWf ⟨X⟩ ⟨.ret⟩ ⟨Q⟩ ⟨T⟩ H = @PQ ⟨Q⟩ ⟨.ret⟩ ⟨T⟩ H := Eq.trans rfl rfl
@[simp] theorem alf_nil {ops : Hid (Array Oper)} : @ALf ⟨X⟩ ops ⟨Q⟩ ⟨[]⟩ ⟨T⟩ H = @PQ ⟨Q⟩ ⟨.normal⟩ ⟨T⟩ H := Eq.trans rfl rfl
@[simp] theorem alf_cons {ops : Array Oper} {o : Oper} {r : List Oper} : @ALf ⟨X⟩ ⟨ops⟩ ⟨Q⟩ ⟨o :: r⟩ ⟨T⟩ H = ((match o.dst with | some d => d < X.N | none => True) /\
  @condA (zaH ops T o)
   ⟨fun _ => @altO _ (zbf (aval X.G T) o) ⟨fun fa => @DoesH X.P X.G fa.1 fa.2 H ⟨fun x H' => @ALf ⟨X⟩ ⟨ops⟩ ⟨Q⟩ ⟨r⟩ ⟨tput T o.dst x⟩ H'⟩⟩
    ⟨@altO _ (aop X.P (aval X.G T) H.get H.next o) ⟨fun ve => @ALf ⟨X⟩ ⟨ops⟩ ⟨Q⟩ ⟨r⟩ ⟨tput T o.dst ve.1⟩ (H.eff ve.2)⟩ ⟨False⟩⟩⟩
   ⟨fun _ => @ALf ⟨X⟩ ⟨ops⟩ ⟨Q⟩ ⟨r⟩ ⟨tput T o.dst zbt⟩ H⟩) := Eq.trans rfl rfl
@[simp] theorem pq_then_normal {K : (Nat -> AV) -> AHeap -> Prop} : @PQ ⟨QThen K Q⟩ ⟨.normal⟩ ⟨T⟩ H = K T H := Eq.trans rfl rfl
@[simp] theorem pq_then_ret {K : (Nat -> AV) -> AHeap -> Prop} : @PQ ⟨QThen K Q⟩ ⟨.ret⟩ ⟨T⟩ H = @PQ ⟨Q⟩ ⟨.ret⟩ ⟨T⟩ H := Eq.trans rfl rfl
@[simp] theorem pq_then_exit {K : (Nat -> AV) -> AHeap -> Prop} {i : Nat} : @PQ ⟨QThen K Q⟩ ⟨.exit i⟩ ⟨T⟩ H = @PQ ⟨Q⟩ ⟨.exit i⟩ ⟨T⟩ H := Eq.trans rfl rfl
@[simp] theorem pq_block_normal {i : Nat} : @PQ ⟨zgi i Q⟩ ⟨.normal⟩ ⟨T⟩ H = @PQ ⟨Q⟩ ⟨.normal⟩ ⟨T⟩ H := Eq.trans rfl rfl
@[simp] theorem pq_block_ret {i : Nat} : @PQ ⟨zgi i Q⟩ ⟨.ret⟩ ⟨T⟩ H = @PQ ⟨Q⟩ ⟨.ret⟩ ⟨T⟩ H := Eq.trans rfl rfl
@[simp] theorem pq_block_exit {i j : Nat} : @PQ ⟨zgi i Q⟩ ⟨.exit j⟩ ⟨T⟩ H = if j = i then @PQ ⟨Q⟩ ⟨.normal⟩ ⟨T⟩ H else @PQ ⟨Q⟩ ⟨.exit j⟩ ⟨T⟩ H := Eq.trans rfl rfl
@[simp] theorem pq_end {P : Program} {rs : List ResultVar} {R : AV -> AHeap -> Prop} {e : Exit} : @PQ ⟨fpost P rs R⟩ ⟨e⟩ ⟨T⟩ H = ((e = .normal \/ e = .ret) /\ @altO _ (ares P T H.get rs) ⟨fun r => R r H⟩ ⟨False⟩) := Eq.trans rfl rfl
end
structure Full where
 T : Nat -> AV
 H : AHeap
 v : AV
 k : Kind
structure Lite where
 c : Nat
 H : AHeap
 rd : (Nat -> Option AObj) -> Option AV
 v : AV
def Kind.code : Kind -> Nat
 | .idle => 0
 | .read => 1
 | .alloc _ => 2
 | .eff => 3
 | .frz => 0
def lite (P : Program) (G : Nat -> Option AV) (o : Oper) (x : Full) : Lite := ⟨x.k.code, x.H, fun g => aread P (aval G x.T) g o, x.v⟩
inductive Tr (P : Program) (G : Nat -> Option AV) (ops : Array Oper) : List Oper -> (Nat -> AV) -> AHeap -> List Full -> (Nat -> AV) -> AHeap -> Prop
 | nil {T : Nat -> AV} {H : AHeap} : Tr P G ops [] T H [] T H
 | cons {o : Oper} {r : List Oper} {T : Nat -> AV} {H H1 : AHeap} {v : AV} {k : Kind} {s : List Full} {T' : Nat -> AV} {H' : AHeap} (hs : Step P G ops o T H v k H1) (hn : H.next <= H1.next)
   (h : Tr P G ops r (tput T o.dst v) H1 s T' H') : Tr P G ops (o :: r) T H (⟨T, H, v, k⟩ :: s) T' H'
def heapF (s : List Lite) (H : AHeap) (q : Nat) : AHeap := match s[q]? with
 | some x => x.H
 | none => H
def lites (P : Program) (G : Nat -> Option AV) : List Oper -> List Full -> List Lite
 | o :: r, x :: s => lite P G o x :: lites P G r s
 | _, _ => []
def ADr (X : Ctx) (ops : Array Oper) (K : List Lite -> (Nat -> AV) -> AHeap -> Prop) : List Oper -> List Lite -> (Nat -> AV) -> AHeap -> Prop
 | [], s, T, H => K s T H
 | o :: r, s, T, H =>
   @condA (zaH ops T o)
    ⟨fun _ => @altO _ (zbf (aval X.G T) o) ⟨fun fa => ∃ x H', Does X.P X.G fa.1 fa.2 H (fun y h => y = x /\ h = H') /\ H.next <= H'.next /\ ADr X ops K r (s ++ [⟨3, H, fun _ => none, x⟩]) (tput T o.dst x) H'⟩
     ⟨@altO _ (apure X.P (aval X.G T) o) ⟨fun v => ADr X ops K r (s ++ [⟨0, H, fun _ => none, v⟩]) (tput T o.dst v) H⟩
      ⟨@altO _ (aread X.P (aval X.G T) H.get o) ⟨fun v => ADr X ops K r (s ++ [⟨1, H, fun g => aread X.P (aval X.G T) g o, v⟩]) (tput T o.dst v) H⟩
       ⟨@altO _ (zdM X.P (aval X.G T) o) ⟨fun x => ADr X ops K r (s ++ [⟨2, H, fun _ => none, x.2 H.next⟩]) (tput T o.dst (x.2 H.next)) (H.push x.1)⟩
        ⟨@altO _ (aeff X.P (aval X.G T) H.get H.next o) ⟨fun x => ADr X ops K r (s ++ [⟨3, H, fun _ => none, x.1⟩]) (tput T o.dst x.1) (H.eff x.2)⟩ ⟨False⟩⟩⟩⟩⟩⟩
    ⟨fun _ => ADr X ops K r (s ++ [⟨0, H, fun _ => none, zbt⟩]) (tput T o.dst zbt) H⟩
def ADf [X : Hid Ctx] [ops : Hid (Array Oper)] [K : Hid (List Lite -> (Nat -> AV) -> AHeap -> Prop)] [l : Hid (List Oper)] [s : Hid (List Lite)] [T : Hid (Nat -> AV)] (H : AHeap) : Prop := ADr X.v ops.v K.v l.v s.v T.v H
theorem eff_next (H : AHeap) (e : AEff) : H.next <= (H.eff e).next := by cases e <;> simp [AHeap.eff]
inductive Two {α β : Type} (R : α -> β -> Prop) : List α -> List β -> Prop
 | nil : Two R [] []
 | cons {a : α} {b : β} {s : List α} {t : List β} (h : R a b) (g : Two R s t) : Two R (a :: s) (b :: t)
theorem Two.length_eq {α β : Type} {R : α -> β -> Prop} {s : List α} {t : List β} (h : Two R s t) : s.length = t.length := by
 induction h with
 | nil => rfl
 | cons _ _ ih => simp [ih]
def LRel (a b : Lite) : Prop := a.c = b.c /\ a.H = b.H /\ a.v = b.v /\ (a.c = 1 -> a.rd = b.rd)
theorem ziV {X : Ctx} {ops : Array Oper} {K : List Lite -> (Nat -> AV) -> AHeap -> Prop} : ∀ (l : List Oper) (s : List Lite) (T : Nat -> AV) (H : AHeap), ADr X ops K l s T H ->
  ∃ u T' H' t, Tr X.P X.G ops l T H u T' H' /\ K (s ++ t) T' H' /\ Two LRel t (lites X.P X.G l u)
 | [], s, T, H, h => ⟨[], T, H, [], .nil, by rw [List.append_nil]; exact h, .nil⟩
 | o :: r, s, T, H, h => by
   have go : ∀ (x : Lite) (v : AV) (k : Kind) (H1 : AHeap), Step X.P X.G ops o T H v k H1 -> H.next <= H1.next -> LRel x (lite X.P X.G o ⟨T, H, v, k⟩) -> ADr X ops K r (s ++ [x]) (tput T o.dst v) H1 ->
     ∃ u T' H' t, Tr X.P X.G ops (o :: r) T H u T' H' /\ K (s ++ t) T' H' /\ Two LRel t (lites X.P X.G (o :: r) u) := by
    intro x v k H1 hs hn hx h
    obtain ⟨u, T', H', t, h1, h2, h3⟩ := ziV r _ _ _ h
    exact ⟨⟨T, H, v, k⟩ :: u, T', H', x :: t, .cons hs hn h1, by simpa using h2, .cons hx h3⟩
   simp only [ADr] at h
   unfold condA at h
   split at h
   · rename_i hw
     simp only at h
     unfold altO at h
     split at h
     · rename_i fa hc
       obtain ⟨f, args⟩ := fa
       obtain ⟨x, H1, hd, hn, h⟩ := h
       exact go ⟨3, H, fun _ => none, x⟩ x .eff H1 ⟨hw, .inr ⟨f, args, hc, hd⟩⟩ hn ⟨rfl, rfl, rfl, fun e => by simp at e⟩ h
     · try simp only at h
       split at h
       · rename_i v hv
         exact go ⟨0, H, fun _ => none, v⟩ v .idle H ⟨.inr ⟨hw, hv⟩, rfl⟩ (Nat.le_refl _) ⟨rfl, rfl, rfl, fun e => by simp at e⟩ h
       · try simp only at h
         split at h
         · rename_i v hv
           exact go ⟨1, H, fun g => aread X.P (aval X.G T) g o, v⟩ v .read H ⟨hw, hv, rfl⟩ (Nat.le_refl _) ⟨rfl, rfl, rfl, fun _ => rfl⟩ h
         · try simp only at h
           split at h
           · rename_i cf hv
             obtain ⟨cs, f⟩ := cf
             exact go ⟨2, H, fun _ => none, f H.next⟩ (f H.next) (.alloc cs) _ ⟨hw, f, hv, rfl, rfl⟩ (by simp) ⟨rfl, rfl, rfl, fun e => by simp at e⟩ h
           · try simp only at h
             split at h
             · rename_i ve hv
               obtain ⟨v, e⟩ := ve
               exact go ⟨3, H, fun _ => none, v⟩ v .eff _ ⟨hw, .inl ⟨e, hv, rfl⟩⟩ (eff_next H e) ⟨rfl, rfl, rfl, fun e => by simp at e⟩ h
             · exact h.elim
   · rename_i hw
     exact go ⟨0, H, fun _ => none, zbt⟩ zbt .idle H ⟨.inl ⟨by simpa using hw, rfl⟩, rfl⟩ (Nat.le_refl _) ⟨rfl, rfl, rfl, fun e => by simp at e⟩ h
def effsC (cs as_ : List Nat) : Bool :=
 cs.zipIdx.all fun (y, j) => !(y == 3) || cs.zipIdx.all fun (x, i) => !decide (i < j) || !(x == 3 || x == 2) || (as_.getD j 0).testBit i
def needs (cs as_ : List Nat) : List (Nat × Nat) :=
 let es := (cs.zipIdx.filter fun (x, _) => x == 3).map (·.2)
 (cs.zipIdx.filter fun (x, _) => x == 1).flatMap fun (_, r) =>
   ((0 :: es.map (· + 1)).filter fun q => !((es.any fun e => decide (e < q) && (as_.getD e 0).testBit r) || (es.any fun e => decide (q <= e) && (as_.getD r 0).testBit e))).map fun q => (r, q)
def rds (s : List Lite) (H : AHeap) : List (Nat × Nat) -> Prop
 | [] => True
 | (r, q) :: l => (match s[r]? with | some x => x.rd (heapF s H q).get = some x.v | none => True) /\ rds s H l
def heapA (s : List Lite) (H : AHeap) (q : Nat) : List Nat -> Nat -> Option AObj
 | [], i => (heapF s H q).get i
 | a :: al, i => if i = (heapF s H a).next then (heapF s H (a + 1)).get i else heapA s H q al i
def zez (cs as_ : List Nat) (L : List (Nat × Nat × List Nat)) : Bool := L.all fun x => x.2.2.all fun a => decide (x.2.1 <= a) && (cs[a]? == some 2) && (as_.getD x.1 0).testBit a
def rdsA (s : List Lite) (H : AHeap) : List (Nat × Nat × List Nat) -> Prop
 | [] => True
 | (r, q, al) :: l => (match s[r]? with | some x => x.rd (heapA s H q al) = some x.v | none => True) /\ rdsA s H l
theorem rdsA_mem {s : List Lite} {H : AHeap} : ∀ {l : List (Nat × Nat × List Nat)}, rdsA s H l -> ∀ {r q : Nat} {al : List Nat} {x : Lite}, (r, q, al) ∈ l -> s[r]? = some x -> x.rd (heapA s H q al) = some x.v
 | [], _, r, q, al, x, h, _ => by simp at h
 | (a, b, c) :: l, h, r, q, al, x, hm, hx => by
   simp only [rdsA] at h
   simp only [List.mem_cons, Prod.mk.injEq] at hm
   rcases hm with ⟨rfl, rfl, rfl⟩ | hm
   · have := h.1; rw [hx] at this; exact this
   · exact rdsA_mem h.2 hm hx
theorem rds_A {s : List Lite} {H : AHeap} : ∀ {l : List (Nat × Nat)}, rds s H l -> rdsA s H (l.map fun x => (x.1, x.2, []))
 | [], _ => trivial
 | (_, _) :: _, h => ⟨h.1, rds_A h.2⟩
theorem tr_length {P : Program} {G : Nat -> Option AV} {ops : Array Oper} {l : List Oper} {T T' : Nat -> AV} {H H' : AHeap} {u : List Full} (h : Tr P G ops l T H u T' H') : u.length = l.length := by
 induction h with
 | nil => rfl
 | cons _ _ _ ih => simp [ih]
def hAt (u : List Full) (H : AHeap) (q : Nat) : AHeap := match u[q]? with
 | some x => x.H
 | none => H
def tAt' (u : List Full) (T : Nat -> AV) (q : Nat) : Nat -> AV := match u[q]? with
 | some x => x.T
 | none => T
theorem tr_spec {P : Program} {G : Nat -> Option AV} {ops : Array Oper} {l : List Oper} {T T' : Nat -> AV} {H H' : AHeap} {u : List Full} (h : Tr P G ops l T H u T' H') :
  hAt u H' 0 = H /\ tAt' u T' 0 = T /\ ∀ i x o, u[i]? = some x -> l[i]? = some o -> Step P G ops o x.T x.H x.v x.k (hAt u H' (i + 1)) /\ x.H.next <= (hAt u H' (i + 1)).next /\ tAt' u T' (i + 1) = tput x.T o.dst x.v := by
 induction h with
 | nil => exact ⟨rfl, rfl, fun i x o h => by simp at h⟩
 | @cons o r T H H1 v k s T' H' hs hn h ih =>
   obtain ⟨h1, h2, h3⟩ := ih
   refine ⟨rfl, rfl, fun i x q hx hq => ?_⟩
   cases i with
   | zero =>
     simp only [List.getElem?_cons_zero, Option.some.injEq] at hx hq
     subst hx; subst hq
     have e1 : hAt (⟨T, H, v, k⟩ :: s) H' (0 + 1) = H1 := h1
     have e2 : tAt' (⟨T, H, v, k⟩ :: s) T' (0 + 1) = tput T o.dst v := h2
     rw [e1, e2]
     exact ⟨hs, hn, rfl⟩
   | succ i => exact h3 i x q (by simpa using hx) (by simpa using hq)
theorem zij {P : Program} {G : Nat -> Option AV} : ∀ (l : List Oper) (u : List Full) (i : Nat) (o : Oper) (x : Full), l[i]? = some o -> u[i]? = some x -> (lites P G l u)[i]? = some (lite P G o x)
 | [], u, i, o, x, h, _ => by simp at h
 | a :: l, [], i, o, x, _, h => by simp at h
 | a :: l, y :: u, 0, o, x, h, g => by simp at h g; subst h; subst g; rfl
 | a :: l, y :: u, i + 1, o, x, h, g => by simpa [lites] using zij l u i o x (by simpa using h) (by simpa using g)
theorem zfK {α β : Type} {R : α -> β -> Prop} : ∀ {s : List α} {t : List β}, Two R s t -> ∀ {i : Nat} {y : β}, t[i]? = some y -> ∃ x, s[i]? = some x /\ R x y
 | _, _, .nil, i, y, h => by simp at h
 | _, _, .cons hr _, 0, y, h => by simp at h; subst h; exact ⟨_, rfl, hr⟩
 | _, _, .cons _ ht, i + 1, y, h => by simpa using zfK ht (i := i) (by simpa using h)
theorem zh9 {P : Program} {G : Nat -> Option AV} {N : Nat} {ops : Array Oper} {Q : Exit -> (Nat -> AV) -> AHeap -> Prop} {T : Nat -> AV} {H : AHeap} {id : Nat} (as_ : List Nat) (L : List (Nat × Nat × List Nat)) (hm : P.follows .mixedOrders = true)
  (hok : zd1 N ops = true) (has : ancs ops.toList = as_)
  (h : ADr ⟨P, G, N⟩ ops (fun s T' H' => (effsC (s.map (·.c)) as_ = true /\ needs (s.map (·.c)) as_ = (L.map fun x => (x.1, x.2.1)) /\ zez (s.map (·.c)) as_ L = true) /\ rdsA s H' L /\ Q .normal T' H') ops.toList [] T H) : AW P G N (.region id ops true) Q T H := by
 subst has
 obtain ⟨u, T2, H2, t, htr, hK, hF⟩ := ziV _ _ _ _ h
 simp only [List.nil_append] at hK
 obtain ⟨⟨heffs, hneeds, hallocs⟩, hrds, hQ⟩ := hK
 simp only [zd1, Bool.and_eq_true] at hok
 obtain ⟨⟨hback, hslots⟩, hdst⟩ := hok
 have hdst' := dstOk_spec hdst
 have hlen : u.length = ops.size := by rw [tr_length htr]; exact Array.length_toList
 obtain ⟨hH0, hT0, hst⟩ := tr_spec htr
 have hget : ∀ i, i < ops.size -> ∃ x, u[i]? = some x := fun i hi => ⟨u[i]'(by omega), List.getElem?_eq_getElem (by omega)⟩
 have hlite : ∀ i, i < ops.size -> ∃ x y o, u[i]? = some x /\ ops[i]? = some o /\ t[i]? = some y /\ LRel y (lite P G o x) := fun i hi => by
  obtain ⟨x, hx⟩ := hget i hi
  obtain ⟨o, ho⟩ := zc4 hi
  obtain ⟨y, hy, hr⟩ := zfK hF (zij ops.toList u i o x (by simpa using ho) hx)
  exact ⟨x, y, o, hx, ho, hy, hr⟩
 have tlen : t.length = ops.size := by
  have h1 : t.length = (lites P G ops.toList u).length := Two.length_eq hF
  have h2 : ∀ (l : List Oper) (u : List Full), u.length = l.length -> (lites P G l u).length = l.length := by
   intro l
   induction l with
   | nil => intro u _; simp [lites]
   | cons a l ih => intro u hu; cases u with
     | nil => simp at hu
     | cons b u => simp [lites, ih u (by simpa using hu)]
  rw [h1, h2 _ _ (by rw [hlen]; simp)]; simp
 let vAt : Nat -> AV := fun i => match u[i]? with | some y => y.v | none => zbt
 let kAt : Nat -> Kind := fun i => match u[i]? with | some y => y.k | none => .idle
 have code : ∀ i, i < ops.size -> (t.map (·.c))[i]? = some (kAt i).code := fun i hi => by
  obtain ⟨x, y, o, hx, ho, hy, hr⟩ := hlite i hi
  have : kAt i = x.k := by simp only [kAt, hx]
  rw [List.getElem?_map, hy, this]
  simp only [Option.map_some]
  rw [hr.1]; rfl
 have c3 : ∀ i, (kAt i).isEff = true -> (kAt i).code = 3 := fun i h => by cases hk : kAt i <;> rw [hk] at h <;> first | rfl | simp [Kind.isEff] at h
 have c2 : ∀ i, (kAt i).isAlloc = true -> (kAt i).code = 2 := fun i h => by cases hk : kAt i <;> rw [hk] at h <;> first | rfl | simp [Kind.isAlloc] at h
 have d3 : ∀ i, (kAt i).code = 3 -> (kAt i).isEff = true := fun i h => by cases hk : kAt i <;> rw [hk] at h <;> first | rfl | simp [Kind.code] at h
 have hheap : ∀ q, q <= ops.size -> heapF t H2 q = hAt u H2 q := fun q hq => by
  rcases Nat.lt_or_ge q ops.size with g | g
  · obtain ⟨x, y, o, hx, ho, hy, hr⟩ := hlite q g
    simp only [heapF, hAt, hx, hy]
    exact hr.2.1
  · simp only [heapF, hAt]
    rw [List.getElem?_eq_none (by omega), List.getElem?_eq_none (by omega)]
 let R : Run P G N ops :=
  { T := fun i => tAt' u T2 i
    H := fun i => hAt u H2 i
    v := vAt
    k := kAt
    step := fun i o ho => by
     obtain ⟨x, hx⟩ := hget i (zdF ho)
     have := (hst i x o hx (by simpa using ho)).1
     have e1 : tAt' u T2 i = x.T := by simp only [tAt', hx]
     have e2 : vAt i = x.v := by simp only [vAt, hx]
     have e3 : kAt i = x.k := by simp only [kAt, hx]
     have e4 : hAt u H2 i = x.H := by simp only [hAt, hx]
     rw [e1, e2, e3, e4]; exact this
    put := fun i o ho => by
     obtain ⟨x, hx⟩ := hget i (zdF ho)
     have := (hst i x o hx (by simpa using ho)).2.2
     have e1 : tAt' u T2 i = x.T := by simp only [tAt', hx]
     have e2 : vAt i = x.v := by simp only [vAt, hx]
     rw [this, e1, e2]
    dst := hdst'
    mono := fun i hi => by
     obtain ⟨x, hx⟩ := hget i hi
     obtain ⟨o, ho⟩ := zc4 hi
     have := (hst i x o hx (by simpa using ho)).2.1
     have e4 : hAt u H2 i = x.H := by simp only [hAt, hx]
     rw [e4]; exact this
    back := zjF hback
    slots := zhT hslots
    effs := fun i j hij hj hk hk' => by
     have ci := code i (by omega)
     have cj := code j hj
     rw [c3 j hk] at cj
     unfold effsC at heffs
     rw [List.all_eq_true] at heffs
     have := heffs (3, j) (mem_zipIdx cj)
     simp only [beq_self_eq_true, Bool.not_true, Bool.false_or, List.all_eq_true] at this
     have := this ((kAt i).code, i) (mem_zipIdx ci)
     simp only [hij, decide_true, Bool.not_true, Bool.false_or] at this
     have hor : ((kAt i).code == 3 || (kAt i).code == 2) = true := by
      rcases hk' with q | q
      · rw [c3 i q]; rfl
      · rw [c2 i q]; rfl
     rw [hor] at this
     exact zcB (by simpa using this)
    reads := fun r o ho hk q hq hq0 hlo hhi g0 hg0 hal0 => by
     obtain ⟨x, y, o', hx, ho', hy, hr⟩ := hlite r (zdF ho)
     rw [ho] at ho'; simp only [Option.some.injEq] at ho'; subst ho'
     have ex : kAt r = x.k := by simp only [kAt, hx]
     have e1 : tAt' u T2 r = x.T := by simp only [tAt', hx]
     have e2 : vAt r = x.v := by simp only [vAt, hx]
     have hk : kAt r = .read := hk
     have cr := code r (zdF ho)
     rw [hk] at cr
     have yc : y.c = 1 := by rw [hr.1]; show x.k.code = 1; rw [<- ex, hk]; rfl
     have hm : (r, q) ∈ L.map fun x => (x.1, x.2.1) := by
      rw [<- hneeds]
      unfold needs
      simp only [List.mem_flatMap, List.mem_map, List.mem_filter, Prod.exists]
      refine ⟨1, r, ⟨mem_zipIdx cr, by simp⟩, q, ⟨?_, ?_⟩, rfl⟩
      · rcases hq0 with rfl | ⟨e, rfl, he⟩
        · simp
        · have ce := code e (by omega)
          have he : (kAt e).isEff = true := he
          rw [c3 e he] at ce
          simp only [List.mem_cons, List.mem_map, List.mem_filter, Prod.exists]
          exact .inr ⟨e, ⟨3, e, ⟨mem_zipIdx ce, by simp⟩, rfl⟩, rfl⟩
      · have cof : ∀ e, e ∈ ((t.map (·.c)).zipIdx.filter fun (x, _) => x == 3).map (·.2) -> e < ops.size /\ (kAt e).isEff = true := by
         intro e he
         simp only [List.mem_map, List.mem_filter, Prod.exists] at he
         obtain ⟨c, e', ⟨h1, h2⟩, rfl⟩ := he
         have h1 := List.mem_zipIdx_iff_getElem?.1 h1
         have hl : e' < ops.size := by
          rcases Nat.lt_or_ge e' ops.size with g | g
          · exact g
          · rw [List.getElem?_eq_none (by simp; omega)] at h1; simp at h1
         refine ⟨hl, d3 e' ?_⟩
         rw [code e' hl] at h1
         simp only [Option.some.injEq] at h1
         rw [h1]; simpa using h2
        rw [Bool.not_eq_true', Bool.or_eq_false_iff, List.any_eq_false, List.any_eq_false]
        refine ⟨fun e he hb => ?_, fun e he hb => ?_⟩
        · simp only [Bool.and_eq_true, decide_eq_true_eq] at hb
          exact hlo e hb.1 (cof e he).2 (zcB hb.2)
        · simp only [Bool.and_eq_true, decide_eq_true_eq] at hb
          exact hhi e hb.1 (cof e he).1 (cof e he).2 (zcB hb.2)
     obtain ⟨⟨r', q', al⟩, hmL, hme⟩ := List.mem_map.1 hm
     simp only [Prod.mk.injEq] at hme
     obtain ⟨rfl, rfl⟩ := hme
     have := rdsA_mem hrds hmL hy
     rw [hr.2.2.2 yc, hr.2.2.1] at this
     rw [e1, e2]
     refine aread_mono ?_ this
     have hal : ∀ a ∈ al, q' <= a /\ (t.map (·.c))[a]? = some 2 /\ Reach ops a r' := fun a ha => by
      unfold zez at hallocs
      rw [List.all_eq_true] at hallocs
      have h1 := hallocs _ hmL
      rw [List.all_eq_true] at h1
      have h2 := h1 a ha
      simp only [Bool.and_eq_true, decide_eq_true_eq, beq_iff_eq] at h2
      exact ⟨h2.1.1, h2.1.2, zcB h2.2⟩
     intro j z hj
     clear hmL this
     induction al with
     | nil =>
       simp only [heapA] at hj
       rw [hheap _ hq] at hj
       exact hg0 j z hj
     | cons a al ih =>
       simp only [heapA] at hj
       split at hj
       · rename_i hja
         obtain ⟨k1, k2, k3⟩ := hal a (by simp)
         have hai : a < ops.size := by
          rcases Nat.lt_or_ge a ops.size with g | g
          · exact g
          · rw [List.getElem?_eq_none (by rw [List.length_map, tlen]; exact g)] at k2; simp at k2
         rw [code a hai] at k2
         simp only [Option.some.injEq] at k2
         obtain ⟨cs, hcs⟩ : ∃ cs, kAt a = .alloc cs := by
          cases hk : kAt a <;> rw [hk] at k2 <;> first | exact ⟨_, rfl⟩ | simp [Kind.code] at k2
         have h3 := hal0 a cs k1 hcs k3
         rw [hheap a (by omega)] at hja
         rw [hheap (a + 1) (by omega)] at hj
         obtain ⟨xa, hxa⟩ := hget a hai
         obtain ⟨oa, hoa⟩ := zc4 hai
         have hstp := (hst a xa oa hxa (by simpa using hoa)).1
         have e4 : hAt u H2 a = xa.H := by simp only [hAt, hxa]
         have e5 : xa.k = .alloc cs := by rw [<- hcs]; simp only [kAt, hxa]
         rw [e5] at hstp
         obtain ⟨_, _, _, _, hpush⟩ := hstp
         rw [hpush, hja, e4] at hj
         simp only [AHeap.push, if_true, Option.some.injEq] at hj
         rw [hja, <- hj]
         exact h3
       · exact ih (fun b hb => hal b (by simp [hb])) hj }
 have hend1 : tAt' u T2 ops.size = T2 := by simp only [tAt']; rw [List.getElem?_eq_none (by omega)]
 have hend2 : hAt u H2 ops.size = H2 := by simp only [hAt]; rw [List.getElem?_eq_none (by omega)]
 refine aw_draw hm R hT0 hH0 ?_
 show Q .normal (tAt' u T2 ops.size) (hAt u H2 ops.size)
 rw [hend1, hend2]; exact hQ
theorem zdx {α : Type} {x : Option α} {k k' : α -> Prop} {y y' : Prop} (h : @altO α x ⟨k⟩ ⟨y⟩) (hk : ∀ a, k a -> k' a) (hy : y -> y') : @altO α x ⟨k'⟩ ⟨y'⟩ := by
 unfold altO at h ⊢
 cases x with
 | none => exact hy h
 | some a => exact hk a h
theorem condA_mono {b : Bool} {x x' y y' : Unit -> Prop} (h : @condA b ⟨x⟩ ⟨y⟩) (hx : x () -> x' ()) (hy : y () -> y' ()) : @condA b ⟨x'⟩ ⟨y'⟩ := by
 unfold condA at h ⊢
 cases b with
 | true => simp only [if_true] at h ⊢; exact hx h
 | false => simp only [Bool.false_eq_true, if_false] at h ⊢; exact hy h
theorem ADr.mono {X : Ctx} {ops : Array Oper} {K K' : List Lite -> (Nat -> AV) -> AHeap -> Prop} (hK : ∀ s T H, K s T H -> K' s T H) : ∀ {l : List Oper} {s : List Lite} {T : Nat -> AV} {H : AHeap}, ADr X ops K l s T H -> ADr X ops K' l s T H
 | [], _, _, _, h => hK _ _ _ h
 | o :: r, s, T, H, h => by
   simp only [ADr] at h ⊢
   refine condA_mono h (fun h => ?_) (fun h => ADr.mono hK h)
   refine zdx h (fun fa h => ?_) fun h => ?_
   · obtain ⟨x, H', h1, h2, h3⟩ := h
     exact ⟨x, H', h1, h2, ADr.mono hK h3⟩
   · refine zdx h (fun v h => ADr.mono hK h) fun h => ?_
     refine zdx h (fun v h => ADr.mono hK h) fun h => ?_
     refine zdx h (fun v h => ADr.mono hK h) fun h => ?_
     exact zdx h (fun v h => ADr.mono hK h) fun h => h
theorem aw_drawF {P : Program} {G : Nat -> Option AV} {N : Nat} {ops : Array Oper} {Q : Exit -> (Nat -> AV) -> AHeap -> Prop} {T : Nat -> AV} {H : AHeap} {id : Nat} (as_ : List Nat) (L : List (Nat × Nat)) (hm : P.follows .mixedOrders = true)
  (hok : zd1 N ops = true) (has : ancs ops.toList = as_)
  (h : ADr ⟨P, G, N⟩ ops (fun s T' H' => (effsC (s.map (·.c)) as_ = true /\ needs (s.map (·.c)) as_ = L) /\ rds s H' L /\ Q .normal T' H') ops.toList [] T H) : AW P G N (.region id ops true) Q T H := by
 refine zh9 as_ (L.map fun x => (x.1, x.2, [])) hm hok has (ADr.mono ?_ h)
 rintro s T' H' ⟨⟨h1, h2⟩, h3, h4⟩
 refine ⟨⟨h1, ?_, ?_⟩, rds_A h3, h4⟩
 · rw [h2, List.map_map]; simp [Function.comp_def]
 · simp [zez]
theorem aw_drawnA {X : Ctx} {ops : Array Oper} {Q : Post} {T : Nat -> AV} {H : AHeap} {id : Nat} (L : List (Nat × Nat × List Nat)) (hm : X.P.follows .mixedOrders = true)
  (hok : zd1 X.N ops = true)
  (h : ∀ as_, ancs ops.toList = as_ -> @ADf ⟨X⟩ ⟨ops⟩ ⟨fun s T' H' => (effsC (s.map (·.c)) as_ = true /\ needs (s.map (·.c)) as_ = (L.map fun x => (x.1, x.2.1)) /\ zez (s.map (·.c)) as_ L = true) /\ rdsA s H' L /\ @PQ ⟨Q⟩ ⟨.normal⟩ ⟨T'⟩ H'⟩ ⟨ops.toList⟩ ⟨[]⟩ ⟨T⟩ H) : @AWs ⟨X⟩ ⟨.region id ops true⟩ ⟨Q⟩ ⟨T⟩ H :=
 zh9 _ L hm hok rfl (h _ rfl)
theorem zak {X : Ctx} {ops : Array Oper} {Q : Post} {T : Nat -> AV} {H : AHeap} {id : Nat} (L : List (Nat × Nat)) (hm : X.P.follows .mixedOrders = true)
  (hok : zd1 X.N ops = true)
  (h : ∀ as_, ancs ops.toList = as_ -> @ADf ⟨X⟩ ⟨ops⟩ ⟨fun s T' H' => (effsC (s.map (·.c)) as_ = true /\ needs (s.map (·.c)) as_ = L) /\ rds s H' L /\ @PQ ⟨Q⟩ ⟨.normal⟩ ⟨T'⟩ H'⟩ ⟨ops.toList⟩ ⟨[]⟩ ⟨T⟩ H) : @AWs ⟨X⟩ ⟨.region id ops true⟩ ⟨Q⟩ ⟨T⟩ H :=
 aw_drawF _ L hm hok rfl (h _ rfl)
section
variable {X : Ctx} {T : Nat -> AV} {H : AHeap} {ops : Array Oper} {K : List Lite -> (Nat -> AV) -> AHeap -> Prop} {s : List Lite}
@[simp] theorem adf_list {l : List Oper} : @ADf ⟨X⟩ ⟨ops⟩ ⟨K⟩ ⟨l.toArray.toList⟩ ⟨s⟩ ⟨T⟩ H = @ADf ⟨X⟩ ⟨ops⟩ ⟨K⟩ ⟨l⟩ ⟨s⟩ ⟨T⟩ H := Eq.trans rfl rfl
@[simp] theorem adf_nil : @ADf ⟨X⟩ ⟨ops⟩ ⟨K⟩ ⟨[]⟩ ⟨s⟩ ⟨T⟩ H = K s T H := Eq.trans rfl rfl
@[simp] theorem adf_cons {o : Oper} {r : List Oper} : @ADf ⟨X⟩ ⟨ops⟩ ⟨K⟩ ⟨o :: r⟩ ⟨s⟩ ⟨T⟩ H =
  @condA (zaH ops T o)
   ⟨fun _ => @altO _ (zbf (aval X.G T) o) ⟨fun fa => ∃ x H', Does X.P X.G fa.1 fa.2 H (fun y h => y = x /\ h = H') /\ H.next <= H'.next /\ @ADf ⟨X⟩ ⟨ops⟩ ⟨K⟩ ⟨r⟩ ⟨s ++ [⟨3, H, fun _ => none, x⟩]⟩ ⟨tput T o.dst x⟩ H'⟩
    ⟨@altO _ (apure X.P (aval X.G T) o) ⟨fun v => @ADf ⟨X⟩ ⟨ops⟩ ⟨K⟩ ⟨r⟩ ⟨s ++ [⟨0, H, fun _ => none, v⟩]⟩ ⟨tput T o.dst v⟩ H⟩
     ⟨@altO _ (aread X.P (aval X.G T) H.get o) ⟨fun v => @ADf ⟨X⟩ ⟨ops⟩ ⟨K⟩ ⟨r⟩ ⟨s ++ [⟨1, H, fun g => aread X.P (aval X.G T) g o, v⟩]⟩ ⟨tput T o.dst v⟩ H⟩
      ⟨@altO _ (zdM X.P (aval X.G T) o) ⟨fun x => @ADf ⟨X⟩ ⟨ops⟩ ⟨K⟩ ⟨r⟩ ⟨s ++ [⟨2, H, fun _ => none, x.2 H.next⟩]⟩ ⟨tput T o.dst (x.2 H.next)⟩ (H.push x.1)⟩
       ⟨@altO _ (aeff X.P (aval X.G T) H.get H.next o) ⟨fun x => @ADf ⟨X⟩ ⟨ops⟩ ⟨K⟩ ⟨r⟩ ⟨s ++ [⟨3, H, fun _ => none, x.1⟩]⟩ ⟨tput T o.dst x.1⟩ (H.eff x.2)⟩ ⟨False⟩⟩⟩⟩⟩⟩
   ⟨fun _ => @ADf ⟨X⟩ ⟨ops⟩ ⟨K⟩ ⟨r⟩ ⟨s ++ [⟨0, H, fun _ => none, zbt⟩]⟩ ⟨tput T o.dst zbt⟩ H⟩ := Eq.trans rfl rfl
end
def AHeap.Wf (H : AHeap) : Prop := ∀ i x, H.get i = some x -> i < H.next /\ AV.allLt H.next x.cellsList = true
theorem Rel.wf {E : Env} {H : AHeap} {w : World} (h : Rel E H w) : H.Wf := fun _ _ hi => ⟨h.lt hi, h.contents hi⟩
theorem AHeap.Wf.none {H : AHeap} (h : H.Wf) {i : Nat} (hi : H.next <= i) : H.get i = .none := by
 cases e : H.get i with
 | none => rfl
 | some x => have := (h i x e).1; omega
theorem Does.wf {P : Program} {G : Nat -> Option AV} {f : FuncId} {args : List AV} {H : AHeap} {R : AV -> AHeap -> Prop} (_ : ziY P f) (h : H.Wf -> AV.allLt H.next args = true -> Does P G f args H R) : Does P G f args H R :=
 ⟨fun E w vs hR hG hv => (h hR.wf (VRels.idLt hR.dom hv)).run E w vs hR hG hv⟩
theorem Does.wfs {P : Program} {G : Nat -> Option AV} {f : FuncId} {args : List AV} {H : AHeap} {R : AV -> AHeap -> Prop} (h : H.Wf -> AV.allLt H.next args = true -> Does P G f args H R) : Does P G f args H R :=
 ⟨fun E w vs hR hG hv => (h hR.wf (VRels.idLt hR.dom hv)).run E w vs hR hG hv⟩
def Ghost (n : Nat) (r : AV) (H : AHeap) (r' : AV) (H' : AHeap) : Prop :=
 ∀ E0 E w u, (∀ i p, E0.φ i = some p -> i < n) -> Ext E0 E -> VRel E r u -> Rel E H w -> ∃ E', Ext E0 E' /\ VRel E' r' u /\ Rel E' H' w
theorem Ghost.refl {n : Nat} {r : AV} {H : AHeap} : Ghost n r H r H := fun _ E _ _ _ hx hv hR => ⟨E, hx, hv, hR⟩
theorem Ghost.trans {n : Nat} {r r' r'' : AV} {H H' H'' : AHeap} (h : Ghost n r H r' H') (g : Ghost n r' H' r'' H'') : Ghost n r H r'' H'' := fun E0 E w u hd hx hv hR => by
 obtain ⟨E', h1, h2, h3⟩ := h E0 E w u hd hx hv hR
 exact g E0 E' w u hd h1 h2 h3
theorem Does.ghost {P : Program} {G : Nat -> Option AV} {f : FuncId} {args : List AV} {H : AHeap} {R R' : AV -> AHeap -> Prop} (h : Does P G f args H R) (hg : ∀ r H1, R r H1 -> ∃ r' H2, Ghost H.next r H1 r' H2 /\ R' r' H2) : Does P G f args H R' :=
 ⟨fun E w vs hR hG hv => (h.run E w vs hR hG hv).mono fun v w' ⟨r, H', E', g, e2, e3, e4⟩ => by
  obtain ⟨r', H2, k1, k2⟩ := hg r H' g
  obtain ⟨E2, m1, m2, m3⟩ := k1 E E' w' v hR.dom e2 e3 e4
  exact ⟨r', H2, E2, k2, m1, m2, m3⟩⟩
theorem Ghost.gc {n : Nat} {r : AV} {H H' : AHeap} (hn : n <= H'.next) (hr : r.idLt H'.next = true) (hs : ∀ i x, H'.get i = some x -> H.get i = some x /\ i < H'.next /\ AV.allLt H'.next x.cellsList = true) : Ghost n r H r H' :=
 fun _ E _ _ hd hx hv hR => ⟨E.cut H'.next, Env.cut_ext hx fun i p hp => Nat.lt_of_lt_of_le (hd i p hp) hn, hv.cut hr, hR.gc hs⟩
theorem Ghost.back {r : AV} {H H0 : AHeap} (hw : H0.Wf) (hr : r.idLt H0.next = true) (hs : ∀ i x, H0.get i = some x -> H.get i = some x) : Ghost H0.next r H r H0 :=
 Ghost.gc (Nat.le_refl _) hr fun i x hi => ⟨hs i x hi, (hw i x hi).1, (hw i x hi).2⟩
theorem Ghost.sub {n : Nat} {r : AV} {H H' : AHeap} (hn : H.next <= H'.next) (hs : ∀ i x, H'.get i = some x -> H.get i = some x) : Ghost n r H r H' :=
 fun _ E _ _ _ hx hv hR => ⟨E, hx, hv, hR.sub hn hs⟩
mutual
def AV.frz (i : Nat) (cs : List AV) : AV -> AV
 | .ptr j o => if j = i then .vptr (cs.drop o) else .ptr j o
 | .sl j o z len cap opn => if j = i then .vsl ((cs.drop o).take (len * z)) len else .sl j o z len cap opn
 | .vptr c => .vptr (AV.frzs i cs c)
 | .vsl c len => .vsl (AV.frzs i cs c) len
 | .func f a b => .func f (AV.frzs i cs a) (AV.frzs i cs b)
 | .iface t v => .iface t (AV.frz i cs v)
 | .agg c => .agg (AV.frzs i cs c)
 | .tuple c => .tuple (AV.frzs i cs c)
 | .csl c len => .csl (AV.frzs i cs c) len
 | v => v
def AV.frzs (i : Nat) (cs : List AV) : List AV -> List AV
 | [] => []
 | a :: as_ => AV.frz i cs a :: AV.frzs i cs as_
end
mutual
theorem VRel.frz {E : Env} {i : Nat} {cs : List AV} {p : Place} (hp : E.φ i = some p) (hk : ∀ o, ∃ vs, InK E p.b (p.s + o) vs /\ VRels E (cs.drop o) vs) : ∀ {a : AV} {v : Value}, VRel E a v -> VRel E (a.frz i cs) v
 | _, _, .bool b => .bool b
 | _, _, .int k n => .int k n
 | _, _, .str s => .str s
 | _, _, .nilptr => .nilptr
 | _, _, .ptr (i := j) (o := o) h => by
   simp only [AV.frz]
   split
   · rename_i e; subst e
     rw [hp] at h; simp only [Option.some.injEq] at h; subst h
     obtain ⟨vs, h1, h2⟩ := hk o
     exact .vptr h1 h2
   · exact .ptr h
 | _, _, .vptr hK hv => .vptr hK (VRels.frz hp hk hv)
 | _, _, .nilsl => .nilsl
 | _, _, .sl (i := j) (o := o) (z := z) (len := len) h hl hc ho hn => by
   simp only [AV.frz]
   split
   · rename_i e; subst e
     rw [hp] at h; simp only [Option.some.injEq] at h; subst h
     obtain ⟨vs, h1, h2⟩ := hk o
     refine .vsl (vs := vs.take (len * z)) ?_ (h2.take _) (Nat.le_trans hl hc)
     rcases h1 with h1 | ⟨c, e, f, g1, g2⟩
     · left; rw [h1]; simp
     · exact .inr ⟨c, e, f, g1, (List.take_prefix _ _).trans g2⟩
   · exact .sl h hl hc ho hn
 | _, _, .vsl hK hv hl => .vsl hK (VRels.frz hp hk hv) hl
 | _, _, .vsl0 => .vsl0
 | _, _, .nilmap => .nilmap
 | _, _, .map h => .map h
 | _, _, .func hf hc => .func (VRels.frz hp hk hf) (VRels.frz hp hk hc)
 | _, _, .nilfunc => .nilfunc
 | _, _, .iface h => .iface (VRel.frz hp hk h)
 | _, _, .niliface => .niliface
 | _, _, .agg h => .agg (VRels.frz hp hk h)
 | _, _, .tuple h => .tuple (VRels.frz hp hk h)
 | _, _, .csl hK hv => .csl hK (VRels.frz hp hk hv)
theorem VRels.frz {E : Env} {i : Nat} {cs : List AV} {p : Place} (hp : E.φ i = some p) (hk : ∀ o, ∃ vs, InK E p.b (p.s + o) vs /\ VRels E (cs.drop o) vs) : ∀ {as_ : List AV} {vs : List Value}, VRels E as_ vs -> VRels E (AV.frzs i cs as_) vs
 | _, _, .nil => .nil
 | _, _, .cons h t => .cons (VRel.frz hp hk h) (VRels.frz hp hk t)
end
theorem AV.frzs_fst (i : Nat) (cs : List AV) : ∀ es : List (AV × AV), ((es.map fun p => (p.1.frz i cs, p.2.frz i cs)).map Prod.fst) = AV.frzs i cs (es.map Prod.fst)
 | [] => rfl
 | p :: es => by simp only [List.map_cons, AV.frzs, AV.frzs_fst i cs es]
theorem AV.frzs_snd (i : Nat) (cs : List AV) : ∀ es : List (AV × AV), ((es.map fun p => (p.1.frz i cs, p.2.frz i cs)).map Prod.snd) = AV.frzs i cs (es.map Prod.snd)
 | [] => rfl
 | p :: es => by simp only [List.map_cons, AV.frzs, AV.frzs_snd i cs es]
def AHeap.frz (H : AHeap) (i : Nat) (cs : List AV) : AHeap := { next := H.next, get := fun j => if j = i then none else match H.get j with
 | some (.cells c) => some (.cells (AV.frzs i cs c))
 | some (.row t c) => some (.row t (AV.frzs i cs c))
 | some (.map es) => some (.map (es.map fun p => (p.1.frz i cs, p.2.frz i cs)))
 | none => none }
theorem Rel.frz {E : Env} {H : AHeap} {w : World} (h : Rel E H w) {i : Nat} {cs : List AV} (hi : H.get i = some (.cells cs)) :
  ∃ E', Ext E E' /\ Rel E' (H.frz i cs) w /\ ∀ {a : AV} {v : Value}, VRel E a v -> VRel E' (a.frz i cs) v := by
 obtain ⟨p, hp⟩ := h.place hi
 obtain ⟨E', hx, hR, hk⟩ := h.freeze hi hp
 have hp' := hx.φ _ _ hp
 have sub : ∀ j x, (H.frz i cs).get j = some x -> (∃ c, (H.kill i).get j = some (.cells c) /\ x = .cells (AV.frzs i cs c)) \/ (∃ t c, (H.kill i).get j = some (.row t c) /\ x = .row t (AV.frzs i cs c)) \/ ∃ es, (H.kill i).get j = some (.map es) /\ x = .map (es.map fun p => (p.1.frz i cs, p.2.frz i cs)) := by
  intro j x hj
  simp only [AHeap.frz] at hj
  split at hj
  · simp at hj
  · rename_i hne
    split at hj
    · rename_i c hc
      simp only [Option.some.injEq] at hj
      exact .inl ⟨c, by simp [hne, hc], hj.symm⟩
    · rename_i t c hc
      simp only [Option.some.injEq] at hj
      exact .inr (.inl ⟨t, c, by simp [hne, hc], hj.symm⟩)
    · rename_i es hc
      simp only [Option.some.injEq] at hj
      exact .inr (.inr ⟨es, by simp [hne, hc], hj.symm⟩)
    · simp at hj
 have there : ∀ j x, (H.frz i cs).get j = some x -> ∃ y, (H.kill i).get j = some y := fun j x hj => by
  rcases sub j x hj with ⟨c, h1, _⟩ | ⟨t, c, h1, _⟩ | ⟨es, h1, _⟩ <;> exact ⟨_, h1⟩
 refine ⟨E', hx, ⟨hR.os, hR.out, hR.K, hR.F, hR.KF, hR.dom, fun j x hj => ?_, fun j k x y p q hj hk' => ?_⟩, fun hv => (hv.mono hx.knows).frz hp' hk⟩
 · rcases sub j x hj with ⟨c, h1, rfl⟩ | ⟨t, c, h1, rfl⟩ | ⟨es, h1, rfl⟩
   · obtain ⟨p, ob, g1, g2, g3, g4, c', e, fz, vs, k1, k2, k3, k4, k5⟩ := hR.live j _ h1
     exact ⟨p, ob, g1, g2, g3, g4, c', e, fz, vs, k1, k2, k3.frz hp' hk, k4, k5⟩
   · obtain ⟨p, ob, g1, g2, g3, g4, ⟨c', e, fz, vs, k1, k2, k3, k4, k5⟩, k6⟩ := hR.live j _ h1
     exact ⟨p, ob, g1, g2, g3, g4, ⟨c', e, fz, vs, k1, k2, k3.frz hp' hk, k4, k5⟩, k6⟩
   · obtain ⟨p, ob, g1, g2, g3, g4, ents, clk, k1, k2, k3⟩ := hR.live j _ h1
     exact ⟨p, ob, g1, g2, g3, g4, ents, clk, k1, by rw [AV.frzs_fst]; exact k2.frz hp' hk, by rw [AV.frzs_snd]; exact k3.frz hp' hk⟩
 · obtain ⟨c, h1⟩ := there j x hj
   obtain ⟨c', h2⟩ := there k y hk'
   exact hR.inj j k _ _ p q h1 h2
theorem Ghost.frz {n : Nat} {r : AV} {H : AHeap} {i : Nat} {cs : List AV} (hi : H.get i = some (.cells cs)) : Ghost n r H (r.frz i cs) (H.frz i cs) := fun _ _ _ _ _ hx hv hR => by
 obtain ⟨E', h1, h2, h3⟩ := hR.frz hi
 exact ⟨E', hx.trans h1, h3 hv, h2⟩
mutual
theorem AV.frz_lt {n i : Nat} {cs : List AV} (hi : n <= i) : ∀ (a : AV), a.idLt n = true -> a.frz i cs = a
 | .bool _, _ => rfl
 | .int _ _, _ => rfl
 | .str _, _ => rfl
 | .nilptr, _ => rfl
 | .ptr j o, h => by simp only [AV.idLt, decide_eq_true_eq] at h; simp only [AV.frz]; rw [if_neg (by omega)]
 | .vptr c, h => by simp only [AV.frz]; rw [AV.frzs_lt hi c (by simpa [AV.idLt] using h)]
 | .nilsl, _ => rfl
 | .sl j _ _ _ _ _, h => by simp only [AV.idLt, decide_eq_true_eq] at h; simp only [AV.frz]; rw [if_neg (by omega)]
 | .vsl c _, h => by simp only [AV.frz]; rw [AV.frzs_lt hi c (by simpa [AV.idLt] using h)]
 | .nilmap, _ => rfl
 | .map _, _ => rfl
 | .func _ a b, h => by simp only [AV.idLt, Bool.and_eq_true] at h; simp only [AV.frz]; rw [AV.frzs_lt hi a h.1, AV.frzs_lt hi b h.2]
 | .nilfunc, _ => rfl
 | .iface _ v, h => by simp only [AV.frz]; rw [AV.frz_lt hi v (by simpa [AV.idLt] using h)]
 | .niliface, _ => rfl
 | .agg c, h => by simp only [AV.frz]; rw [AV.frzs_lt hi c (by simpa [AV.idLt] using h)]
 | .tuple c, h => by simp only [AV.frz]; rw [AV.frzs_lt hi c (by simpa [AV.idLt] using h)]
 | .csl c _, h => by simp only [AV.frz]; rw [AV.frzs_lt hi c (by simpa [AV.idLt] using h)]
theorem AV.frzs_lt {n i : Nat} {cs : List AV} (hi : n <= i) : ∀ (as_ : List AV), AV.allLt n as_ = true -> AV.frzs i cs as_ = as_
 | [], _ => rfl
 | a :: as_, h => by simp only [AV.allLt, Bool.and_eq_true] at h; simp only [AV.frzs]; rw [AV.frz_lt hi a h.1, AV.frzs_lt hi as_ h.2]
end
theorem zf3 {α β : Type} : ∀ {l m : List (α × β)}, l.map Prod.fst = m.map Prod.fst -> l.map Prod.snd = m.map Prod.snd -> l = m
 | [], [], _, _ => rfl
 | [], _ :: _, h, _ => by simp at h
 | _ :: _, [], h, _ => by simp at h
 | (a, b) :: l, (c, d) :: m, h1, h2 => by
   simp only [List.map_cons, List.cons.injEq] at h1 h2
   rw [h1.1, h2.1, zf3 h1.2 h2.2]
theorem AHeap.frz_old {H0 H : AHeap} (hw : H0.Wf) {i : Nat} (hi : H0.next <= i) {cs : List AV} (hs : ∀ j x, H0.get j = some x -> H.get j = some x) : ∀ j x, H0.get j = some x -> (H.frz i cs).get j = some x := by
 intro j x hj
 have h1 := hw j x hj
 simp only [AHeap.frz]
 rw [if_neg (by omega), hs j x hj]
 cases x with
 | cells c => simp only; rw [AV.frzs_lt hi c h1.2]
 | row t c => simp only; rw [AV.frzs_lt hi c h1.2]
 | map es =>
   have h2 := h1.2
   rw [AObj.cellsList, AV.allLt_append, Bool.and_eq_true] at h2
   have e1 := AV.frzs_fst i cs es
   have e2 := AV.frzs_snd i cs es
   rw [AV.frzs_lt hi _ h2.1] at e1
   rw [AV.frzs_lt hi _ h2.2] at e2
   simp only
   congr 2
   exact zf3 e1 e2
theorem Does.frozen {P : Program} {G : Nat -> Option AV} {f : FuncId} {args : List AV} {H : AHeap} {R R' : AV -> AHeap -> Prop} (h : Does P G f args H R)
  (hg : H.Wf -> AV.allLt H.next args = true -> ∀ r H1, R r H1 -> ∃ i cs, H.next <= i /\ H1.get i = some (.cells cs) /\ (∀ j x, H.get j = some x -> H1.get j = some x) /\ (r.frz i cs).idLt H.next = true /\ R' (r.frz i cs) H) : Does P G f args H R' :=
 Does.wfs fun hw ha => h.ghost fun r H1 hr => by
  obtain ⟨i, cs, h1, h2, h3, h4, h5⟩ := hg hw ha r H1 hr
  exact ⟨_, H, (Ghost.frz h2).trans (Ghost.back hw h4 (AHeap.frz_old hw h1 h3)), h5⟩
theorem Does.forgot {P : Program} {G : Nat -> Option AV} {f : FuncId} {args : List AV} {H : AHeap} {R R' : AV -> AHeap -> Prop} (h : Does P G f args H R)
  (hg : H.Wf -> AV.allLt H.next args = true -> ∀ r H1, R r H1 -> (∀ j x, H.get j = some x -> H1.get j = some x) /\ r.idLt H.next = true /\ R' r H) : Does P G f args H R' :=
 Does.wfs fun hw ha => h.ghost fun r H1 hr => by
  obtain ⟨h3, h4, h5⟩ := hg hw ha r H1 hr
  exact ⟨_, H, Ghost.back hw h4 h3, h5⟩
theorem zav {P : Program} {G : Nat -> Option AV} {f : FuncId} {args : List AV} {H : AHeap} {R : AV -> AHeap -> Prop} {R' : Hid (AV -> AHeap -> Prop)} (h : Does P G f args H R) (g : ∀ r H', R r H' -> H'.Wf -> r.idLt H'.next = true -> R'.v r H') : @DoesH P G f args H R' :=
 ⟨fun E w vs hR hG hv => (h.run E w vs hR hG hv).mono fun _ _ ⟨r, H', E', g1, g3, g4, g5⟩ => ⟨r, H', E', g _ _ g1 g5.wf (VRel.idLt g5.dom g4), g3, g4, g5⟩⟩
end Go.Abs
namespace Go.Abs
open Go Go.RowKit
theorem zfI (b : UInt8) (l : List UInt8) (c : UInt8) : Go.Lib.indexByte (b :: l) c = if b = c then 0 else if Go.Lib.indexByte l c = -1 then -1 else Go.Lib.indexByte l c + 1 := by
 simp [Go.Lib.indexByte]
structure IsIdx (P : Program) (f : FuncId) : Prop where
 ex : ∃ fn, P.funcs[f]? = some fn /\ (fn.name == "runtime.NumGoroutine") = false /\ fn.body.isNone = true /\ Extern.findNext fn = none /\ Extern.find fn = some Extern.BytealgIndexByte.indexByte
theorem idx_does {P : Program} {G : Nat -> Option AV} {f : FuncId} (hf : IsIdx P f) (s : List UInt8) (c : Int) (H : AHeap) :
  Does P G f [.str s, .int .u8 c] H fun r h => r = .int .i64 (Go.Lib.indexByte s c.toNat.toUInt8) /\ h = H := by
 obtain ⟨fn, h1, h2, h3, h4, h5⟩ := hf.ex
 refine ⟨fun E w vs hR hG hv => ?_⟩
 cases hv with | cons ha hv =>
 cases hv with | cons hb hv =>
 cases hv
 cases ha
 cases hb
 refine .inr ⟨.int .i64 (Go.Lib.indexByte s c.toNat.toUInt8), w, ?_, _, H, E, ⟨rfl, rfl⟩, Ext.refl E, .int _ _, hR⟩
 rw [run_callFunc_extern h1 h2 h3 h4 h5]
 have := Go.Lib.run_indexByteString (P := P) ⟨s.toArray⟩ c w
 simp only at this
 rw [this]
 rfl
end Go.Abs
namespace Go.Lex
abbrev Bs := List UInt8
def zaz (b : UInt8) : Bool := b == 32 || b == 9 || b == 10 || b == 13
def zbC (b : UInt8) : Bool := decide (97 <= b.toNat) && decide (b.toNat <= 122)
def zay (b : UInt8) : Bool := decide (48 <= b.toNat) && decide (b.toNat <= 57)
def zaC (b : UInt8) : Bool := zbC b || zay b || b == 95
theorem zaD {α : Type} (p : α -> Bool) : ∀ l : List α, (l.dropWhile p).length <= l.length
 | [] => Nat.le_refl _
 | a :: l => by
   rw [List.dropWhile_cons]
   split
   · exact Nat.le_succ_of_le (zaD p l)
   · exact Nat.le_refl _
def betw (s : Bs) : Bs :=
 match h : s.dropWhile zaz with
 | 45 :: 45 :: q => betw (q.dropWhile fun b => b != 10)
 | r => r
termination_by s.length
decreasing_by
 have h1 := zaD zaz s
 rw [h] at h1
 have h2 := zaD (fun b : UInt8 => b != 10) q
 simp only [List.length_cons] at h1
 omega
def keptWords : List Bs := [[110,111,100,101],[114,101,116,117,114,110,115],[118,97,114],[108,101,116],[116,101,108],[98,111,111,108],[105,110,116],[116,114,117,101],[102,97,108,115,101],[110,111,116],[97,110,100],[111,114],[120,111,114],[109,111,100],[105,102],[116,104,101,110],[101,108,115,101],[112,114,101],[102,98,121],[119,104,101,110],[109,101,114,103,101]]
def kept (s : Bs) : Bool := keptWords.contains s
def signs : List Bs := [[60,61],[62,61],[60,62],[45,62],[40],[41],[58],[59],[44],[61],[43],[45],[42],[47],[60],[62]]
def zeh (s : Bs) : Option Bs := signs.find? fun x => x.isPrefixOf s
def za9 (s : Bs) : Nat := s.foldl (fun n b => 10 * n + (b.toNat - 48)) 0
structure Wd where
 kind : Nat
 text : Bs
 n : Nat
 deriving DecidableEq
def wordS (s : Bs) : Option Wd := match s with
 | [] => none
 | b :: _ =>
   if zbC b then
    (if kept (s.takeWhile zaC) then some ⟨2, s.takeWhile zaC, 0⟩ else if (s.takeWhile zaC).length <= 24 then some ⟨1, s.takeWhile zaC, 0⟩ else none)
   else if zay b then
    (if za9 (s.takeWhile zay) < 9223372036854775808 /\ ((s.takeWhile zay).length = 1 \/ b ≠ 48) then some ⟨3, s.takeWhile zay, za9 (s.takeWhile zay)⟩ else none)
   else match zeh s with
    | some t => some ⟨4, t, 0⟩
    | none => none
def cutS (n : Nat) (s : Bs) : Except Nat (List (Nat × Wd)) :=
 match h : betw s with
 | [] => .ok []
 | b :: r => match wordS (b :: r) with
   | none => .error (n - (r.length + 1))
   | some w => match cutS n (r.drop (w.text.length - 1)) with
     | .ok l => .ok ((n - (r.length + 1), w) :: l)
     | .error e => .error e
termination_by s.length
decreasing_by
 have hb : ∀ s : Bs, (betw s).length <= s.length := by
  intro s
  induction s using betw.induct with
  | case1 s q h ih =>
    rw [betw]
    split
    · rename_i q' h'
      rw [h] at h'
      simp only [List.cons.injEq, true_and] at h'
      subst h'
      have h1 := zaD zaz s
      rw [h] at h1
      have h2 := zaD (fun b : UInt8 => b != 10) q
      simp only [List.length_cons] at h1
      omega
    · rename_i h'
      exact absurd h (h' q)
  | case2 s h =>
    rw [betw]
    split
    · rename_i q h'
      exact absurd h' (h q)
    · exact zaD zaz s
 have h1 := hb s
 rw [h] at h1
 simp only [List.length_cons, List.length_drop] at h1 ⊢
 omega
end Go.Lex
namespace Go.Abs
open Go Go.RowKit
theorem Rel.below {E : Env} {H : AHeap} {w w' : World} (h : Rel E H w) (b : Below w.heap.size w w') : Rel E H w' := by
 have hb : ∀ (B : Nat) (o : Obj), w.heap[B]? = some o -> w'.heap[B]? = some o := fun B o ho => by
  rw [b.block B (Array.getElem?_eq_some_iff.1 ho).1]; exact ho
 exact ⟨b.os.trans h.os, b.output.trans h.out, fun B o hB => hb _ _ (h.K B o hB), fun B o hB => hb _ _ (h.F B o hB), h.KF, h.dom, fun i x hi => by
  obtain ⟨p, ob, g1, g2, g3, g4, g5⟩ := h.live i x hi
  exact ⟨p, ob, g1, g2, g3, hb _ _ g4, g5⟩, h.inj⟩
structure IsCopy (P : Program) (f : FuncId) : Prop where
 enters : ziY P f
 runs : ∀ (s : ByteArray) (w : World), s.size <= 281474976710656 -> Calls P f #[.string s] w fun e w' => e = .returned (.string s) /\ Below w.heap.size w w'
theorem copy_does {P : Program} {G : Nat -> Option AV} {f : FuncId} (hf : IsCopy P f) (s : List UInt8) (hs : s.length <= 281474976710656) (H : AHeap) : Does P G f [.str s] H fun r h => r = .str s /\ h = H := by
 refine ⟨fun E w vs hR hG hv => ?_⟩
 cases hv with | cons ha hv =>
 cases hv
 cases ha
 refine .inl ⟨hf.enters _ _, (hf.runs ⟨s.toArray⟩ w (by simpa [ByteArray.size] using hs)).mono fun e w' ⟨h1, h2⟩ => ⟨_, h1, .str s, H, E, ⟨rfl, rfl⟩, Ext.refl E, .str s, hR.below h2⟩⟩
end Go.Abs
namespace Go.Proofs.YtnejkhhnpbcmaaaGreatDoor
open Go Go.Abs Go.RowKit
/- internal/stringslite.Clone: the same bytes; of what was there nothing has turned. -/
theorem clone_runs (s : ByteArray) (w : World) (hlim : s.size <= 281474976710656) : Calls Tryz.prog 206 #[.string s] w fun e w' => e = .returned (.string s) /\ Below w.heap.size w w' := by
 by_cases h0 : s.size = 0
 · obtain rfl : s = ⟨#[]⟩ := ByteArray.ext (Array.eq_empty_of_size_eq_zero h0)
   go_enter Tryz.func206, Tryz.ntmps206
   go_wp2
   go_ret
   exact ⟨rfl, Below.refl _ _⟩
 · have hi : Tryz.prog.info? 5 = some Tryz.t5 := by kernel_rfl
   have hz0 : Tryz.t5.zero = some (.int .u8 0) := by kernel_rfl
   have hz1 : Tryz.t5.size = 1 := by kernel_rfl
   have hz2 : Tryz.t5.bytes = 1 := by kernel_rfl
   have hinfo : (Tryz.prog.info? 5).map (·.size) = some 1 := by kernel_rfl
   have hco : Tryz.prog.cellsOf 5 = 1 := by kernel_rfl
   have u29 : Tryz.prog.underlying 125 = some (.slice 5) := Tryz.underlying125
   have u94 : Tryz.prog.underlying 272 = some (.pointer 5) := Tryz.underlying272
   have z5 : ∀ w, (Go.sizeOf 5).run Tryz.prog w = .ok 1 w := fun w => by kernel_rfl
   obtain ⟨M, hM⟩ : ∃ M, M = madeCells (Value.int .u8 0).cells (((s.size : Nat) : Int).toNat * Tryz.t5.size) := ⟨_, rfl⟩
   have hMs : M.size = s.size := by rw [hM, size_madeCells, hz1]; simp
   have hmk : ∀ W : World, (Instr.makeSlice 125 (.int .i64 (s.size : Int)) (.int .i64 (s.size : Int))).run Tryz.prog W = .ok (.slice (some ⟨W.heap.size, 0, none⟩) s.size s.size) (W.alloc (.cells M 5)) := fun W => by
    have h := run_make (P := Tryz.prog) W 125 5 Tryz.t5 (.int .u8 0) u29 hi hz0 .i64 .i64 (s.size : Int) (s.size : Int) (by omega) (by omega) (by rw [hz2]; omega) (by omega)
    rw [<- hM] at h
    simpa using h
   clear hM
   have hcp := Lib.run_copy_row_string (P := Tryz.prog) (w.alloc (.cells M 5)) 125 9 3 5 w.heap.size 0 s.size s.size s M 5 u29 hinfo (heap_alloc_new w _) (Nat.le_refl _) (by omega)
   obtain ⟨Y, hY⟩ : ∃ Y, Y = (M.toList.take 0 ++ Lib.byteCells s.data.toList ++ M.toList.drop (0 + s.size)).toArray := ⟨_, rfl⟩
   rw [<- hY] at hcp
   have hYl : Y.toList = Lib.byteCells s.data.toList := by
    rw [hY, List.toList_toArray, List.take_zero, List.nil_append, List.drop_of_length_le (by rw [Array.length_toList]; omega), List.append_nil]
   have hYs : Y.size = s.size := by rw [<- Array.length_toList, hYl, Lib.byteCells_length, <- Lib.size_eq]
   have hgY : ((w.alloc (.cells M 5)).setRow w.heap.size Y).heap[w.heap.size]? = some (.cells Y 5 (0, 0)) := setRow_heap _ _ M _ 5 (0, 0) (heap_alloc_new w _)
   have hne : s.data.toList ≠ [] := fun e => h0 (by rw [Lib.size_eq, e]; rfl)
   have hUS := Lib.run_unsafeString_row (P := Tryz.prog) ((w.alloc (.cells M 5)).setRow w.heap.size Y) 272 3 9 5 u94 hco w.heap.size Y.size (by unfold World.shape?; rw [hgY]) s.data.toList hne (by rw [<- Lib.size_eq]; omega) (by rw [<- Lib.size_eq]; omega)
    (fun j x hx => Lib.cells_of_row hgY Y.size j _ (by rw [List.take_of_length_le (by rw [Array.length_toList]; exact Nat.le_refl _), hYl]; simp [Lib.byteCells, hx]))
   rw [<- Lib.size_eq] at hUS
   clear hY
   go_enter Tryz.func206, Tryz.ntmps206
   go_wp2
   go_ret
   have hb1 : Below w.heap.size w (w.alloc (.cells M 5)) := (Below.refl _ w).alloc (Nat.le_refl _) _
   have hb2 : Below w.heap.size (w.alloc (.cells M 5)) ((w.alloc (.cells M 5)).setRow w.heap.size Y) := ⟨rfl, rfl, rfl, by simp, fun k hk => setRow_other _ _ _ _ (by omega)⟩
   exact ⟨rfl, Lib.below_freeze (hb1.trans hb2) (p := ⟨w.heap.size, 0, none⟩) (Nat.le_refl _) _⟩
theorem isCopy : IsCopy Tryz.prog 206 := ⟨Tryz.call206, clone_runs⟩
end Go.Proofs.YtnejkhhnpbcmaaaGreatDoor
namespace Go.Lex
theorem zeD (s q : Bs) (h : s.dropWhile zaz = 45 :: 45 :: q) : betw s = betw (q.dropWhile fun b => b != 10) := by
 rw [betw]
 split
 · rename_i q' h'
   rw [h] at h'
   simp only [List.cons.injEq, true_and] at h'
   rw [h']
 · rename_i h'
   exact absurd h (h' q)
theorem zbZ (s : Bs) (h : ∀ q, s.dropWhile zaz ≠ 45 :: 45 :: q) : betw s = s.dropWhile zaz := by
 rw [betw]
 split
 · rename_i q hq
   exact absurd hq (h q)
 · rfl
theorem zgQ {b : UInt8} {s : Bs} (h : zaz b = true) : betw (b :: s) = betw s := by
 have e : (b :: s).dropWhile zaz = s.dropWhile zaz := by rw [List.dropWhile_cons, if_pos h]
 by_cases hq : ∃ q, s.dropWhile zaz = 45 :: 45 :: q
 · obtain ⟨q, hq⟩ := hq
   rw [zeD _ q (e.trans hq), zeD _ q hq]
 · have hn : ∀ q, s.dropWhile zaz ≠ 45 :: 45 :: q := fun q h => hq ⟨q, h⟩
   rw [zbZ s hn, zbZ _ (by rw [e]; exact hn), e]
theorem zeu {b : UInt8} {s : Bs} (h : zaz b = false) (h2 : ∀ q, b :: s ≠ 45 :: 45 :: q) : betw (b :: s) = b :: s := by
 have e : (b :: s).dropWhile zaz = b :: s := by rw [List.dropWhile_cons, h]; rfl
 rw [zbZ _ (by rw [e]; exact h2), e]
theorem ziC : betw [] = [] := zbZ [] (fun q h => by simp at h)
theorem zdy {s : Bs} {w : Wd} (h : wordS s = some w) : w.text <+: s /\ w.text ≠ [] := by
 cases s with
 | nil => simp [wordS] at h
 | cons c q =>
   simp only [wordS] at h
   split at h
   · rename_i hL
     have hne : (c :: q).takeWhile zaC ≠ [] := by
      rw [List.takeWhile_cons, if_pos (by simp [zaC, hL])]; simp
     split at h
     · simp only [Option.some.injEq] at h; subst h; exact ⟨List.takeWhile_prefix _, hne⟩
     · split at h
       · simp only [Option.some.injEq] at h; subst h; exact ⟨List.takeWhile_prefix _, hne⟩
       · simp at h
   · split at h
     · rename_i hD
       have hne : (c :: q).takeWhile zay ≠ [] := by
        rw [List.takeWhile_cons, if_pos hD]; simp
       split at h
       · simp only [Option.some.injEq] at h; subst h; exact ⟨List.takeWhile_prefix _, hne⟩
       · simp at h
     · split at h
       · rename_i t ht
         simp only [Option.some.injEq] at h; subst h
         have h1 := List.find?_some ht
         have h2 := List.mem_of_find?_eq_some ht
         refine ⟨List.isPrefixOf_iff_prefix.1 h1, ?_⟩
         rintro rfl
         exact absurd h2 (by decide)
       · simp at h
theorem zet {n : Nat} {s : Bs} (h : betw s = []) : cutS n s = .ok [] := by
 rw [cutS]; split
 · rfl
 · rename_i h'; rw [h] at h'; simp at h'
theorem zfo {n : Nat} {s q : Bs} {c : UInt8} (h : betw s = c :: q) (hw : wordS (c :: q) = none) : cutS n s = .error (n - (c :: q).length) := by
 rw [cutS]; split
 · rename_i h'; rw [h] at h'; simp at h'
 · rename_i b r h'
   rw [h] at h'
   simp only [List.cons.injEq] at h'
   obtain ⟨rfl, rfl⟩ := h'
   rw [hw]; rfl
theorem zds {n : Nat} {s q : Bs} {c : UInt8} {w : Wd} (h : betw s = c :: q) (hw : wordS (c :: q) = some w) :
  cutS n s = match cutS n ((c :: q).drop w.text.length) with
   | .ok l => .ok ((n - (c :: q).length, w) :: l)
   | .error e => .error e := by
 rw [cutS]; split
 · rename_i h'; rw [h] at h'; simp at h'
 · rename_i b r h'
   rw [h] at h'
   simp only [List.cons.injEq] at h'
   obtain ⟨rfl, rfl⟩ := h'
   rw [hw]
   obtain ⟨_, hne⟩ := zdy hw
   have h1 : (c :: q).drop w.text.length = q.drop (w.text.length - 1) := by
    have h0 : w.text.length ≠ 0 := by simpa using hne
    obtain ⟨k, hk⟩ : ∃ k, w.text.length = k + 1 := ⟨w.text.length - 1, by omega⟩
    rw [hk]; rfl
   rw [h1]; rfl
def ziR (ws : List (Nat × Wd)) : Except Nat (List (Nat × Wd)) -> Except Nat (List (Nat × Wd))
 | .ok l => .ok (ws ++ l)
 | .error e => .error e
theorem zgN {n : Nat} {s s' : Bs} (h : betw s = betw s') : cutS n s = cutS n s' := by
 cases h1 : betw s with
 | nil => rw [zet h1, zet (h.symm.trans h1)]
 | cons c q =>
   cases hw : wordS (c :: q) with
   | none => rw [zfo h1 hw, zfo (h.symm.trans h1) hw]
   | some w => rw [zds h1 hw, zds (h.symm.trans h1) hw]
end Go.Lex
namespace Go.Syn
open Go.Lex
structure St where
 i : Nat
 names : Int
 parts : Int
 err : Nat
 pos : Nat
 deriving DecidableEq
inductive Ex where
 | mk (op name : Bs) (n : Nat) (pos : Nat) (kids : List Ex)
def Ex.zero : Ex := .mk [] [] 0 0 []
structure Va where
 name : Bs
 kind : Nat
 on : Bs
 neg : Bool
 pos : Nat
structure Eqn where
 name : Bs
 e : Ex
 pos : Nat
structure Nd where
 name : Bs
 ins : List Va
 outs : List Va
 locals : List Va
 eqs : List Eqn
 pos : Nat
abbrev Ws := List (Nat × Wd)
abbrev P := St -> Ex × St
def wrap (n : Int) : Int := (n + 9223372036854775808) % 18446744073709551616 - 9223372036854775808
section
variable (W : Ws)
def at_ (s : St) : Nat × Wd := W.getD s.i (0, ⟨0, [], 0⟩)
def kind (s : St) : Nat := (at_ W s).2.kind
def text (s : St) : Bs := (at_ W s).2.text
def fail (e : Nat) (s : St) : St := if s.err = 0 then { s with err := e, pos := (at_ W s).1 } else s
def is (s : St) (t : Bs) : Bool := s.err == 0 && ((kind W s == 2 || kind W s == 4) && text W s == t)
def one (s : St) (ts : List Bs) : Bool := ts.any (is W s)
def part (s : St) : St :=
 let s := { s with parts := wrap (s.parts + 1) }
 let s := if 300 < s.parts then fail W 2 s else s
 if s.err = 0 then { s with i := s.i + 1 } else s
def take (s : St) (t : Bs) : Bool × St := if is W s t then (true, { s with i := s.i + 1 }) else (false, s)
def want1 (s : St) (t : Bs) : St := if is W s t then { s with i := s.i + 1 } else fail W 7 s
def want (s : St) (ts : List Bs) : St := ts.foldl (want1 W) s
def name (s : St) : Bs × St :=
 let s1 := if kind W s = 1 then s else fail W 7 s
 if s1.err = 0 then (text W s1, { s1 with i := s1.i + 1 }) else ([], s1)
def deeper (last : Bool) (s : St) : Bool × St :=
 let s := if last then fail W 2 s else s
 (decide (s.err = 0), s)
def rowL (next : P) (ts : List Bs) : Nat -> Ex -> St -> Ex × St
 | 0, e, s => (e, s)
 | k + 1, e, s => if one W s ts then
     let w := at_ W s
     let (e2, s2) := next (part W s)
     rowL next ts k (.mk w.2.text [] 0 w.1 [e, e2]) s2
  else (e, s)
def row (next : P) (ts : List Bs) (s : St) : Ex × St :=
 let (e, s) := next s
 rowL W next ts (W.length + 1) e s
def right (next : P) (t : Bs) (last : Bool) (below : P) (s : St) : Ex × St :=
 let (e, s) := next s
 if is W s t then
  let w := at_ W s
  let (b, s) := deeper W last (part W s)
  if b then
   let (e2, s) := below s
   (.mk t [] 0 w.1 [e, e2], s)
  else (e, s)
 else (e, s)
def cmp (next : P) (s : St) : Ex × St :=
 let (e, s) := next s
 if one W s [[61], [60, 62], [60], [60, 61], [62], [62, 61]] then
  let w := at_ W s
  let (e2, s) := next (part W s)
  (.mk w.2.text [] 0 w.1 [e, e2], s)
 else (e, s)
def whenL : Nat -> Ex -> St -> Ex × St
 | 0, e, s => (e, s)
 | k + 1, e, s => if is W s [119, 104, 101, 110] then
     let w := at_ W s
     let (b, s) := take W (part W s) [110, 111, 116]
     let (nm, s) := name W s
     whenL k (.mk [119, 104, 101, 110] nm (if b then 0 else 1) w.1 [e]) s
  else (e, s)
def when_ (next : P) (s : St) : Ex × St :=
 let (e, s) := next s
 whenL W (W.length + 1) e s
def un (prim : P) (last : Bool) (below : P) (s : St) : Ex × St :=
 if one W s [[110, 111, 116], [45], [112, 114, 101]] then
  let w := at_ W s
  let op := if w.2.text = [45] then [110, 101, 103] else w.2.text
  let (b, s) := deeper W last (part W s)
  if b then
   let (e, s) := below s
   (.mk op [] 0 w.1 [e], s)
  else (.zero, s)
 else prim s
def inner (last : Bool) (below : P) (s : St) : Ex × St :=
 let (b, s) := deeper W last s
 if b then below s else (.zero, s)
def argsL (inn : P) : Nat -> List Ex -> St -> List Ex × St
 | 0, l, s => (l, s)
 | k + 1, l, s => if is W s [44] then
     let (e, s) := inn { s with i := s.i + 1 }
     argsL inn k (l ++ [e]) s
  else (l, s)
def arguments (inn : P) (s : St) : List Ex × St :=
 if is W s [41] then ([], { s with i := s.i + 1 })
 else
  let (e, s) := inn s
  let (l, s) := argsL W inn (W.length + 1) [e] s
  (l, want1 W s [41])
def rest (inn mer : P) (w : Nat × Wd) (s : St) : Ex × St :=
 if w.2.kind = 3 then (.mk [105, 110, 116] [] w.2.n w.1 [], s)
 else if w.2.text = [116, 114, 117, 101] then (.mk [98, 111, 111, 108] [] 1 w.1 [], s)
 else if w.2.text = [102, 97, 108, 115, 101] then (.mk [98, 111, 111, 108] [] 0 w.1 [], s)
 else if w.2.kind = 1 then
  if is W s [40] then
   let (l, s) := arguments W inn { s with i := s.i + 1 }
   (.mk [99, 97, 108, 108] w.2.text 0 w.1 l, s)
  else (.mk [118, 97, 114] w.2.text 0 w.1 [], s)
 else if w.2.text = [105, 102] then
  let (a, s) := inn s
  let (b, s) := inn (want1 W s [116, 104, 101, 110])
  let (c, s) := inn (want1 W s [101, 108, 115, 101])
  (.mk w.2.text [] 0 w.1 [a, b, c], s)
 else
  let (nm, s) := name W s
  let (a, s) := mer s
  let (b, s) := mer s
  (.mk w.2.text nm 0 w.1 [a, b], s)
def prim (inn mer : P) (s : St) : Ex × St :=
 let w := at_ W s
 if s.err ≠ 0 then (.zero, s)
 else if is W s [40] then
  let (e, s) := inn { s with i := s.i + 1 }
  (e, want1 W s [41])
 else if w.2.kind = 3 \/ w.2.kind = 1 \/ one W s [[116, 114, 117, 101], [102, 97, 108, 115, 101], [105, 102], [109, 101, 114, 103, 101]] = true then
  rest W inn mer w (part W s)
 else (.zero, fail W 7 s)
structure Lv where
 expr : P
 fby : P
 un : P
 prim : P
def lvOf (last : Bool) (b : Lv) : Lv :=
 let prim := prim W (inner W last b.expr) (inner W last b.prim)
 let un := un W prim last b.un
 let whn := when_ W un
 let fby := right W whn [102, 98, 121] last b.fby
 let mul := row W fby [[42], [47], [109, 111, 100]]
 let add := row W mul [[43], [45]]
 let cmp := cmp W add
 let and := row W cmp [[97, 110, 100]]
 let or := row W and [[111, 114], [120, 111, 114]]
 let expr := right W or [45, 62] last b.expr
 ⟨expr, fby, un, prim⟩
def lv : Nat -> Lv
 | 0 => lvOf W true ⟨fun s => (.zero, s), fun s => (.zero, s), fun s => (.zero, s), fun s => (.zero, s)⟩
 | d + 1 => lvOf W false (lv d)
def declared (s : St) : Va × St :=
 let w := at_ W s
 let s := if w.2.kind = 1 then
     let s := { s with names := wrap (s.names + 1) }
     if 64 < s.names then fail W 2 s else s
  else s
 let (nm, s) := name W s
 (⟨nm, 0, [], false, w.1⟩, s)
def declL : Nat -> List Va -> St -> List Va × St
 | 0, l, s => (l, s)
 | k + 1, l, s => if is W s [44] then
     let (v, s) := declared W { s with i := s.i + 1 }
     declL k (l ++ [v]) s
  else (l, s)
def decl (s : St) : List Va × St :=
 let (v, s) := declared W s
 let (l, s) := declL W (W.length + 1) [v] s
 let s := want1 W s [58]
 if is W s [98, 111, 111, 108] then (l.map fun v => { v with kind := 1 }, { s with i := s.i + 1 })
 else if is W s [105, 110, 116] then (l.map fun v => { v with kind := 2 }, { s with i := s.i + 1 })
 else (l.map fun v => { v with kind := 0 }, fail W 7 s)
def declsL : Nat -> List Va -> St -> List Va × St
 | 0, l, s => (l, s)
 | k + 1, l, s => if is W s [59] then
     let (m, s) := decl W { s with i := s.i + 1 }
     declsL k (l ++ m) s
  else (l, s)
def decls (s : St) : List Va × St :=
 if kind W s ≠ 1 then ([], s) else
  let (l, s) := decl W s
  declsL W (W.length + 1) l s
def local_ (s : St) : List Va × St :=
 let (l, s) := decl W s
 if is W s [119, 104, 101, 110] then
  let (b, s) := take W { s with i := s.i + 1 } [110, 111, 116]
  let (nm, s) := name W s
  (l.map fun v => { v with on := nm, neg := b }, s)
 else (l, s)
def localsL : Nat -> List Va -> St -> List Va × St
 | 0, l, s => (l, s)
 | k + 1, l, s => if s.err = 0 /\ kind W s = 1 then
     let (m, s) := local_ W s
     localsL k (l ++ m) (want1 W s [59])
  else (l, s)
def locals_ (s : St) : List Va × St :=
 let (l, s) := if kind W s = 1 then local_ W s else ([], s)
 localsL W (W.length + 1) l (want1 W s [59])
def eqsL : Nat -> List Eqn -> St -> List Eqn × St
 | 0, l, s => (l, s)
 | k + 1, l, s => if s.err = 0 /\ kind W s = 1 then
     let w := at_ W s
     let (nm, s) := name W s
     let s := { want1 W s [61] with parts := 0 }
     let (e, s) := if s.err = 0 then (lv W 29).expr s else (.zero, s)
     eqsL k (l ++ [⟨nm, e, w.1⟩]) (want1 W s [59])
  else (l, s)
def node (s : St) : Nd × St :=
 let w := at_ W s
 let s := want1 W { s with names := 0 } [110, 111, 100, 101]
 let (nm, s) := name W s
 let (ins, s) := decls W (want1 W s [40])
 let (outs, s) := decls W (want W s [[41], [114, 101, 116, 117, 114, 110, 115], [40]])
 let s := want W s [[41], [59]]
 let (b, s) := take W s [118, 97, 114]
 let (locs, s) := if b then locals_ W s else ([], s)
 let (eqs, s) := eqsL W (W.length + 1) [] (want1 W s [108, 101, 116])
 let (_, s) := take W (want1 W s [116, 101, 108]) [59]
 (⟨nm, ins, outs, locs, eqs, w.1⟩, s)
def nodesL : Nat -> List Nd -> St -> List Nd × St
 | 0, l, s => (l, s)
 | k + 1, l, s => if s.err = 0 /\ (l = [] \/ kind W s ≠ 0) then
     if l.length = 32 then (l, fail W 2 s)
     else
      let (n, s) := node W s
      nodesL k (l ++ [n]) s
  else (l, s)
end
def parse (t : Bs) : Except (Nat × Nat) (List Nd) :=
 if 16384 < t.length then .error (2, t.length)
 else match cutS t.length t with
  | .error e => .error (7, e)
  | .ok l =>
    let W := l ++ [(t.length, ⟨0, [], 0⟩)]
    let (ns, s) := nodesL W 33 [] ⟨0, 0, 0, 0, 0⟩
    if s.err = 0 then .ok ns else .error (s.err, s.pos)
end Go.Syn
namespace Go.Abs
open Go
mutual
inductive ResV (get : Nat -> Option AObj) (n : Nat) : AV -> AV -> Prop
 | old {v : AV} (h : v.idLt n = true) : ResV get n v v
 | ptr {i o : Nat} {cs r : List AV} (hn : n <= i) (hi : get i = some (.cells cs)) (h : ResL get n (cs.drop o) r) : ResV get n (.ptr i o) (.vptr r)
 | sl {i o z len cap : Nat} {opn : Bool} {cs r : List AV} (hn : n <= i) (hi : get i = some (.cells cs)) (h : ResL get n ((cs.drop o).take (len * z)) r) : ResV get n (.sl i o z len cap opn) (.vsl r len)
 | vptr {cs r : List AV} (h : ResL get n cs r) : ResV get n (.vptr cs) (.vptr r)
 | vsl {cs r : List AV} {len : Nat} (h : ResL get n cs r) : ResV get n (.vsl cs len) (.vsl r len)
 | agg {cs r : List AV} (h : ResL get n cs r) : ResV get n (.agg cs) (.agg r)
 | tuple {cs r : List AV} (h : ResL get n cs r) : ResV get n (.tuple cs) (.tuple r)
inductive ResL (get : Nat -> Option AObj) (n : Nat) : List AV -> List AV -> Prop
 | nil : ResL get n [] []
 | cons {a b : AV} {as_ bs : List AV} (h : ResV get n a b) (t : ResL get n as_ bs) : ResL get n (a :: as_) (b :: bs)
end
mutual
theorem ResV.mono {g g' : Nat -> Option AObj} {n : Nat} (hg : ∀ i cs, n <= i -> g i = some (.cells cs) -> g' i = some (.cells cs)) : ∀ {v r : AV}, ResV g n v r -> ResV g' n v r
 | _, _, .old h => .old h
 | _, _, .ptr hn hi h => .ptr hn (hg _ _ hn hi) (ResL.mono hg h)
 | _, _, .sl hn hi h => .sl hn (hg _ _ hn hi) (ResL.mono hg h)
 | _, _, .vptr h => .vptr (ResL.mono hg h)
 | _, _, .vsl h => .vsl (ResL.mono hg h)
 | _, _, .agg h => .agg (ResL.mono hg h)
 | _, _, .tuple h => .tuple (ResL.mono hg h)
theorem ResL.mono {g g' : Nat -> Option AObj} {n : Nat} (hg : ∀ i cs, n <= i -> g i = some (.cells cs) -> g' i = some (.cells cs)) : ∀ {v r : List AV}, ResL g n v r -> ResL g' n v r
 | _, _, .nil => .nil
 | _, _, .cons h t => .cons (ResV.mono hg h) (ResL.mono hg t)
end
theorem ResL.old {g : Nat -> Option AObj} {n : Nat} : ∀ {l : List AV}, AV.allLt n l = true -> ResL g n l l
 | [], _ => .nil
 | a :: l, h => by
   simp only [AV.allLt, Bool.and_eq_true] at h
   exact .cons (.old h.1) (ResL.old h.2)
theorem ResL.append {g : Nat -> Option AObj} {n : Nat} : ∀ {a b c d : List AV}, ResL g n a b -> ResL g n c d -> ResL g n (a ++ c) (b ++ d)
 | _, _, _, _, .nil, h => h
 | _, _, _, _, .cons h t, k => .cons h (ResL.append t k)
mutual
theorem ResV.down {g : Nat -> Option AObj} {n m : Nat} (hm : m <= n) : ∀ {v r : AV}, ResV g n v r -> r.idLt m = true -> ResV g m v r
 | _, _, .old _, hr => .old hr
 | _, _, .ptr hn hi h, hr => .ptr (Nat.le_trans hm hn) hi (ResL.down hm h (by simpa [AV.idLt] using hr))
 | _, _, .sl hn hi h, hr => .sl (Nat.le_trans hm hn) hi (ResL.down hm h (by simpa [AV.idLt] using hr))
 | _, _, .vptr h, hr => .vptr (ResL.down hm h (by simpa [AV.idLt] using hr))
 | _, _, .vsl h, hr => .vsl (ResL.down hm h (by simpa [AV.idLt] using hr))
 | _, _, .agg h, hr => .agg (ResL.down hm h (by simpa [AV.idLt] using hr))
 | _, _, .tuple h, hr => .tuple (ResL.down hm h (by simpa [AV.idLt] using hr))
theorem ResL.down {g : Nat -> Option AObj} {n m : Nat} (hm : m <= n) : ∀ {v r : List AV}, ResL g n v r -> AV.allLt m r = true -> ResL g m v r
 | _, _, .nil, _ => .nil
 | _, _, .cons h t, hr => by
   simp only [AV.allLt, Bool.and_eq_true] at hr
   exact .cons (ResV.down hm h hr.1) (ResL.down hm t hr.2)
end
noncomputable def Env.from_ (E : Env) (H : AHeap) (w : World) (n : Nat) : Env := { φ := fun i => if i < n then E.φ i else none, F := E.F, os := E.os, out := E.out, K := fun B => match E.K B with
 | some o => some o
 | none => match E.F B with
   | some _ => none
   | none => by
     classical
     exact if (∃ i x p, i < n /\ H.get i = some x /\ E.φ i = some p /\ p.b = B) then none else w.heap[B]? }
section
variable {E : Env} {H : AHeap} {w : World} {n : Nat}
theorem from_K {B : Nat} {o : Obj} (h : E.K B = some o) : (E.from_ H w n).K B = some o := by
 show (match E.K B with | some o => some o | none => _) = some o
 rw [h]
theorem from_live (hR : Rel E H w) {i : Nat} {x : AObj} {p : Place} (hi : i < n) (hx : H.get i = some x) (hp : E.φ i = some p) : (E.from_ H w n).K p.b = none := by
 obtain ⟨q, ob, h1, h2, h3, h4, h5⟩ := hR.live i x hx
 rw [hp] at h1; cases h1
 show (match E.K p.b with | some o => some o | none => _) = none
 rw [h2]
 show (match E.F p.b with | some _ => none | none => _) = none
 rw [h3]
 exact if_pos ⟨i, x, p, hi, hx, hp, rfl⟩
theorem from_new (hR : Rel E H w) {i : Nat} {x : AObj} {p : Place} (hi : n <= i) (hx : H.get i = some x) (hp : E.φ i = some p) : (E.from_ H w n).K p.b = w.heap[p.b]? := by
 obtain ⟨q, ob, h1, h2, h3, h4, h5⟩ := hR.live i x hx
 rw [hp] at h1; cases h1
 show (match E.K p.b with | some o => some o | none => _) = w.heap[p.b]?
 rw [h2]
 show (match E.F p.b with | some _ => none | none => _) = w.heap[p.b]?
 rw [h3]
 refine if_neg ?_
 rintro ⟨j, y, q, hj, hy, hq, e⟩
 have := hR.inj j i y x q p hy hx hq hp e
 omega
theorem zgF : Knows (E.cut n) (E.from_ H w n) := ⟨fun _ _ h => h, fun _ _ h => from_K h⟩
theorem from_ink (hR : Rel E H w) {i : Nat} {cs : List AV} {p : Place} (hn : n <= i) (hi : H.get i = some (.cells cs)) (hp : E.φ i = some p) (o : Nat) :
  ∃ vs, InK (E.from_ H w n) p.b (p.s + o) vs /\ VRels E (cs.drop o) vs := by
 have hK := from_new (n := n) hR hn hi hp
 obtain ⟨q, ob, h1, h2, h3, h4, c, e, fz, vs, rfl, _, h6, h7, _⟩ := hR.live i _ hi
 rw [hp] at h1; cases h1
 refine ⟨vs.drop o, .inr ⟨c, e, fz, hK.trans h4, ?_⟩, h6.drop o⟩
 obtain ⟨t, ht⟩ := h7
 rw [<- List.drop_drop, <- ht]
 by_cases ho : o <= vs.length
 · rw [List.drop_append_of_le_length ho]; exact List.prefix_append _ _
 · rw [List.drop_of_length_le (by omega)]; exact List.nil_prefix
theorem InK.from_ {B o : Nat} {vs : List Value} (h : InK E B o vs) : InK (E.from_ H w n) B o vs := by
 rcases h with h | ⟨c, e, f, h1, h2⟩
 · exact .inl h
 · exact .inr ⟨c, e, f, from_K h1, h2⟩
mutual
theorem VRel.resV (hR : Rel E H w) : ∀ {v r : AV} {u : Value}, ResV H.get n v r -> VRel E v u -> VRel (E.from_ H w n) r u
 | _, _, _, .old h, hv => (VRel.cut hv h).mono zgF
 | _, _, _, .ptr hn hi h, hv => by
   cases hv with
   | ptr hp =>
     obtain ⟨vs, h1, h2⟩ := from_ink hR hn hi hp _
     exact .vptr h1 (VRels.resL hR h h2)
 | _, _, _, .sl (len := len) (z := z) hn hi h, hv => by
   cases hv with
   | sl hp hl hc ho hm =>
     obtain ⟨vs, h1, h2⟩ := from_ink hR hn hi hp _
     refine .vsl (vs := vs.take (len * z)) ?_ (VRels.resL hR h (h2.take _)) (Nat.le_trans hl hc)
     rcases h1 with h1 | ⟨c, e, f, g1, g2⟩
     · left; rw [h1]; simp
     · exact .inr ⟨c, e, f, g1, (List.take_prefix _ _).trans g2⟩
 | _, _, _, .vptr h, hv => by
   cases hv with
   | vptr hK hv => exact .vptr hK.from_ (VRels.resL hR h hv)
 | _, _, _, .vsl h, hv => by
   cases hv with
   | vsl hK hv hl => exact .vsl hK.from_ (VRels.resL hR h hv) hl
   | vsl0 => cases h; exact .vsl0
 | _, _, _, .agg h, hv => by
   cases hv with
   | agg hv => exact .agg (VRels.resL hR h hv)
 | _, _, _, .tuple h, hv => by
   cases hv with
   | tuple hv => exact .tuple (VRels.resL hR h hv)
theorem VRels.resL (hR : Rel E H w) : ∀ {v r : List AV} {u : List Value}, ResL H.get n v r -> VRels E v u -> VRels (E.from_ H w n) r u
 | _, _, _, .nil, hv => by cases hv; exact .nil
 | _, _, _, .cons h t, hv => by
   cases hv with
   | cons hv ht => exact .cons (VRel.resV hR h hv) (VRels.resL hR t ht)
end
end
theorem Ghost.deep {n : Nat} {v r : AV} {H H2 : AHeap} (hv : ResV H.get n v r) (hn : H2.next = n) (hs : ∀ i x, H2.get i = some x -> H.get i = some x /\ i < n /\ AV.allLt n x.cellsList = true) : Ghost n v H r H2 := fun E0 E w u hd hx hu hR => by
 subst hn
 have hgc := hR.gc hs
 refine ⟨E.from_ H w H2.next, ⟨fun i p hp => ?_, fun B o hB => from_K (hx.K B o hB), hx.F, hx.os, hx.out⟩, VRel.resV hR hv hu, ?_⟩
 · show (if i < H2.next then E.φ i else none) = some p
   rw [if_pos (hd i p hp)]; exact hx.φ i p hp
 · refine ⟨hR.os, hR.out, fun B o hB => ?_, hR.F, fun B => ?_, hgc.dom, fun i x hi => ?_, hgc.inj⟩
   · have hB : (match E.K B with | some o => some o | none => _) = some o := hB
     split at hB
     · rename_i o' ho'
       simp only [Option.some.injEq] at hB; subst hB
       exact hR.K B _ ho'
     · split at hB
       · simp at hB
       · split at hB
         · simp at hB
         · exact hB
   · cases hF : E.F B with
     | none => exact .inr hF
     | some o =>
       left
       have hK : E.K B = none := by
        rcases hR.KF B with e | e
        · exact e
        · rw [hF] at e; simp at e
       show (match E.K B with | some o => some o | none => _) = none
       rw [hK]
       show (match E.F B with | some _ => none | none => _) = none
       rw [hF]
   · obtain ⟨p, ob, h1, h2, h3, h4, h5⟩ := hgc.live i x hi
     obtain ⟨g1, g2, _⟩ := hs i x hi
     have hp : E.φ i = some p := by
      have h1 : (if i < H2.next then E.φ i else none) = some p := h1
      rw [if_pos g2] at h1; exact h1
     exact ⟨p, ob, h1, from_live hR g2 g1 hp, h3, h4, h5.mono zgF⟩
theorem Does.deep {P : Program} {G : Nat -> Option AV} {f : FuncId} {args : List AV} {H : AHeap} {R R' : AV -> AHeap -> Prop} (h : Does P G f args H R)
  (hg : H.Wf -> AV.allLt H.next args = true -> ∀ r H1, R r H1 -> ∃ r' H2, ResV H1.get H.next r r' /\ H2.next = H.next /\ (∀ i x, H2.get i = some x -> H1.get i = some x /\ i < H.next /\ AV.allLt H.next x.cellsList = true) /\ R' r' H2) : Does P G f args H R' :=
 Does.wfs fun hw ha => h.ghost fun r H1 hr => by
  obtain ⟨r', H2, h1, h2, h3, h4⟩ := hg hw ha r H1 hr
  exact ⟨r', H2, Ghost.deep h1 h2 h3, h4⟩
def ASr (X : Ctx) (ops : Array Oper) (K : List Nat -> (Nat -> AV) -> Prop) : List Oper -> List Nat -> (Nat -> AV) -> AHeap -> Prop
 | [], cs, T, _ => K cs T
 | o :: r, cs, T, H =>
   @condA (zaH ops T o)
    ⟨fun _ => @altO _ (zbf (aval X.G T) o) ⟨fun fa => ∃ x, Does X.P X.G fa.1 fa.2 H (fun y h => y = x /\ h = H) /\ ASr X ops K r (3 :: cs) (tput T o.dst x) H⟩
     ⟨@altO _ (apure X.P (aval X.G T) o) ⟨fun v => ASr X ops K r (0 :: cs) (tput T o.dst v) H⟩
      ⟨@altO _ (aread X.P (aval X.G T) H.get o) ⟨fun v => ASr X ops K r (1 :: cs) (tput T o.dst v) H⟩ ⟨False⟩⟩⟩⟩
    ⟨fun _ => ASr X ops K r (0 :: cs) (tput T o.dst zbt) H⟩
def ASf [X : Hid Ctx] [ops : Hid (Array Oper)] [K : Hid (List Nat -> (Nat -> AV) -> Prop)] [l : Hid (List Oper)] [cs : Hid (List Nat)] [T : Hid (Nat -> AV)] (H : AHeap) : Prop := ASr X.v ops.v K.v l.v cs.v T.v H
def zeL (H : AHeap) (x : Lite) : Prop := x.H = H /\ (x.c = 1 -> x.rd H.get = some x.v)
theorem ziI {X : Ctx} {ops : Array Oper} {K : List Nat -> (Nat -> AV) -> Prop} : ∀ (l : List Oper) (cs : List Nat) (s : List Lite) (T : Nat -> AV) (H : AHeap), ASr X ops K l cs T H -> s.map (·.c) = cs.reverse -> (∀ x ∈ s, zeL H x) ->
  ∃ cF, ADr X ops (fun s T' H' => s.map (·.c) = cF.reverse /\ (∀ x ∈ s, zeL H x) /\ K cF T' /\ H' = H) l s T H
 | [], cs, s, T, H, h, h1, h2 => ⟨cs, h1, h2, h, rfl⟩
 | o :: r, cs, s, T, H, h, h1, h2 => by
   have go : ∀ (x : Lite), zeL H x -> (s ++ [x]).map (·.c) = (x.c :: cs).reverse /\ ∀ y ∈ s ++ [x], zeL H y := fun x hx => by
    refine ⟨by simp [h1], fun y hy => ?_⟩
    simp only [List.mem_append, List.mem_singleton] at hy
    rcases hy with hy | rfl
    · exact h2 y hy
    · exact hx
   simp only [ASr] at h
   simp only [ADr]
   unfold condA at h
   split at h
   · rename_i hw
     simp only at h
     unfold altO at h
     split at h
     · rename_i fa hc
       obtain ⟨x, hd, h⟩ := h
       obtain ⟨g1, g2⟩ := go ⟨3, H, fun _ => none, x⟩ ⟨rfl, fun e => by simp at e⟩
       obtain ⟨cF, h3⟩ := ziI r _ _ _ H h g1 g2
       refine ⟨cF, ?_⟩
       unfold condA
       rw [if_pos hw]
       show @altO _ (zbf (aval X.G T) o) ⟨_⟩ ⟨_⟩
       rw [hc]
       exact ⟨x, H, hd, Nat.le_refl _, h3⟩
     · rename_i hc
       try simp only at h
       split at h
       · rename_i v hv
         obtain ⟨g1, g2⟩ := go ⟨0, H, fun _ => none, v⟩ ⟨rfl, fun e => by simp at e⟩
         obtain ⟨cF, h3⟩ := ziI r _ _ _ H h g1 g2
         refine ⟨cF, ?_⟩
         unfold condA
         rw [if_pos hw]
         show @altO _ (zbf (aval X.G T) o) ⟨_⟩ ⟨_⟩
         rw [hc]
         show @altO _ (apure X.P (aval X.G T) o) ⟨_⟩ ⟨_⟩
         rw [hv]
         exact h3
       · rename_i hv0
         try simp only at h
         split at h
         · rename_i v hv
           obtain ⟨g1, g2⟩ := go ⟨1, H, fun g => aread X.P (aval X.G T) g o, v⟩ ⟨rfl, fun _ => hv⟩
           obtain ⟨cF, h3⟩ := ziI r _ _ _ H h g1 g2
           refine ⟨cF, ?_⟩
           unfold condA
           rw [if_pos hw]
           show @altO _ (zbf (aval X.G T) o) ⟨_⟩ ⟨_⟩
           rw [hc]
           show @altO _ (apure X.P (aval X.G T) o) ⟨_⟩ ⟨_⟩
           rw [hv0]
           show @altO _ (aread X.P (aval X.G T) H.get o) ⟨_⟩ ⟨_⟩
           rw [hv]
           exact h3
         · exact h.elim
   · rename_i hw
     obtain ⟨g1, g2⟩ := go ⟨0, H, fun _ => none, zbt⟩ ⟨rfl, fun e => by simp at e⟩
     obtain ⟨cF, h3⟩ := ziI r _ _ _ H h g1 g2
     refine ⟨cF, ?_⟩
     unfold condA
     rw [if_neg hw]
     exact h3
theorem zjy {s : List Lite} {H : AHeap} (hs : ∀ x ∈ s, zeL H x) (q : Nat) : heapF s H q = H := by
 unfold heapF
 split
 · rename_i x hx
   exact (hs x (List.mem_of_getElem? hx)).1
 · rfl
theorem zgz {s : List Lite} {H : AHeap} (hs : ∀ x ∈ s, zeL H x) : ∀ (L : List (Nat × Nat)), (∀ e ∈ L, (s.map (·.c))[e.1]? = some 1) -> rdsA s H (L.map fun x => (x.1, x.2, []))
 | [], _ => trivial
 | (r, q) :: L, h => by
   refine ⟨?_, zgz hs L fun e he => h e (by simp [he])⟩
   have h1 := h (r, q) (by simp)
   simp only
   split
   · rename_i x hx
     rw [List.getElem?_map, hx] at h1
     simp only [Option.map_some, Option.some.injEq] at h1
     have e : heapA s H q [] = H.get := by funext i; show (heapF s H q).get i = H.get i; rw [zjy hs]
     rw [e]
     exact (hs x (List.mem_of_getElem? hx)).2 h1
   · trivial
theorem needs_read {cs as_ : List Nat} : ∀ e ∈ needs cs as_, cs[e.1]? = some 1 := by
 rintro ⟨r, q⟩ h
 unfold needs at h
 simp only [List.mem_flatMap, List.mem_filter, List.mem_map] at h
 obtain ⟨⟨x, i⟩, ⟨h1, h2⟩, q', _, h3⟩ := h
 simp only [Prod.mk.injEq] at h3
 obtain ⟨rfl, rfl⟩ := h3
 simp only [beq_iff_eq] at h2
 subst h2
 have := List.mem_zipIdx h1
 obtain ⟨_, h5, h6⟩ := this
 simp only [Nat.sub_zero] at h6
 show cs[i]? = some 1
 rw [List.getElem?_eq_getElem (by omega), h6]
theorem zaM {X : Ctx} {ops : Array Oper} {Q : Post} {T : Nat -> AV} {H : AHeap} {id : Nat} (hm : X.P.follows .mixedOrders = true) (hok : zd1 X.N ops = true)
  (h : ∀ es, ancs ops.toList = es -> @ASf ⟨X⟩ ⟨ops⟩ ⟨fun cs T' => effsC cs.reverse es = true /\ @PQ ⟨Q⟩ ⟨.normal⟩ ⟨T'⟩ H⟩ ⟨ops.toList⟩ ⟨[]⟩ ⟨T⟩ H) : @AWs ⟨X⟩ ⟨.region id ops true⟩ ⟨Q⟩ ⟨T⟩ H := by
 obtain ⟨cF, h1⟩ := ziI _ [] [] _ _ (h _ rfl) rfl (by simp)
 refine zh9 (ancs ops.toList) ((needs cF.reverse (ancs ops.toList)).map fun x => (x.1, x.2, [])) hm hok rfl (ADr.mono ?_ h1)
 rintro s T' H' ⟨g1, g2, ⟨g3, g4⟩, rfl⟩
 rw [g1]
 refine ⟨⟨g3, ?_, ?_⟩, zgz g2 _ ?_, g4⟩
 · rw [List.map_map]; simp [Function.comp_def]
 · simp [zez]
 · rw [g1]; exact needs_read
def ASs [X : Hid Ctx] [ops : Hid (Array Oper)] [K : Hid (List Nat -> (Nat -> AV) -> Prop)] [l : Hid (List Oper)] [cs : Hid (List Nat)] [T : Hid (Nat -> AV)] (H : AHeap) : Prop := ASr X.v ops.v K.v l.v cs.v T.v H
section
variable {X : Ctx} {T : Nat -> AV} {H : AHeap} {ops : Array Oper} {K : List Nat -> (Nat -> AV) -> Prop} {cs : List Nat}
@[simp] theorem asf_list {l : List Oper} : @ASf ⟨X⟩ ⟨ops⟩ ⟨K⟩ ⟨l.toArray.toList⟩ ⟨cs⟩ ⟨T⟩ H = @ASf ⟨X⟩ ⟨ops⟩ ⟨K⟩ ⟨l⟩ ⟨cs⟩ ⟨T⟩ H := Eq.trans rfl rfl
@[simp] theorem asf_nil : @ASf ⟨X⟩ ⟨ops⟩ ⟨K⟩ ⟨[]⟩ ⟨cs⟩ ⟨T⟩ H = K cs T := Eq.trans rfl rfl
@[simp] theorem asf_cons {o : Oper} {r : List Oper} : @ASf ⟨X⟩ ⟨ops⟩ ⟨K⟩ ⟨o :: r⟩ ⟨cs⟩ ⟨T⟩ H =
  @condA (zaH ops T o)
   ⟨fun _ => @altO _ (zbf (aval X.G T) o) ⟨fun fa => ∃ x, Does X.P X.G fa.1 fa.2 H (fun y h => y = x /\ h = H) /\ @ASs ⟨X⟩ ⟨ops⟩ ⟨K⟩ ⟨r⟩ ⟨3 :: cs⟩ ⟨tput T o.dst x⟩ H⟩
    ⟨@altO _ (apure X.P (aval X.G T) o) ⟨fun v => @ASf ⟨X⟩ ⟨ops⟩ ⟨K⟩ ⟨r⟩ ⟨0 :: cs⟩ ⟨tput T o.dst v⟩ H⟩
     ⟨@altO _ (aread X.P (aval X.G T) H.get o) ⟨fun v => @ASf ⟨X⟩ ⟨ops⟩ ⟨K⟩ ⟨r⟩ ⟨1 :: cs⟩ ⟨tput T o.dst v⟩ H⟩ ⟨False⟩⟩⟩⟩
   ⟨fun _ => @ASf ⟨X⟩ ⟨ops⟩ ⟨K⟩ ⟨r⟩ ⟨0 :: cs⟩ ⟨tput T o.dst zbt⟩ H⟩ := Eq.trans rfl rfl
end
end Go.Abs
namespace Go.Lex
def betwF : Nat -> Bs -> Bs
 | 0, s => s
 | k + 1, s => match s.dropWhile zaz with
   | a :: b :: q => if a = 45 /\ b = 45 then betwF k (q.dropWhile fun b => b != 10) else a :: b :: q
   | r => r
theorem betwF_eq : ∀ (k : Nat) (s : Bs), s.length <= k -> betwF k s = betw s
 | 0, s, h => by
   have : s = [] := List.eq_nil_of_length_eq_zero (by omega)
   subst this
   rw [ziC]; rfl
 | k + 1, s, h => by
   have hl := zaD zaz s
   rw [betwF]
   split
   · rename_i a b q hq
     split
     · rename_i hab
       obtain ⟨rfl, rfl⟩ := hab
       rw [zeD s q hq]
       refine betwF_eq k _ ?_
       have h2 := zaD (fun b : UInt8 => b != 10) q
       rw [hq] at hl
       simp only [List.length_cons] at hl
       omega
     · rename_i hab
       rw [zbZ s (fun q' h' => hab (by rw [hq] at h'; simp only [List.cons.injEq] at h'; exact ⟨h'.1, h'.2.1⟩)), hq]
   · rename_i hne
     rw [zbZ s fun q h' => hne _ _ _ h']
theorem betw_le (s : Bs) : (betw s).length <= s.length := by
 rw [<- betwF_eq s.length s (Nat.le_refl _)]
 have key : ∀ (k : Nat) (s : Bs), (betwF k s).length <= s.length := by
  intro k
  induction k with
  | zero => intro s; exact Nat.le_refl _
  | succ k ih =>
    intro s
    have hl := zaD zaz s
    rw [betwF]
    split
    · rename_i a b q hq
      rw [hq] at hl
      split
      · have h1 := ih (q.dropWhile fun b => b != 10)
        have h2 := zaD (fun b : UInt8 => b != 10) q
        simp only [List.length_cons] at hl
        omega
      · exact hl
    · exact hl
 exact key _ _
theorem zef (p : UInt8 -> Bool) : ∀ (a : Bs) (c : UInt8) (r : Bs), (∀ b ∈ a, p b = true) -> p c = false -> (a ++ c :: r).takeWhile p = a
 | [], c, r, _, hc => by simp [hc]
 | b :: a, c, r, ha, hc => by
   rw [List.cons_append, List.takeWhile_cons, if_pos (ha b (by simp)), zef p a c r (fun x hx => ha x (by simp [hx])) hc]
theorem zbv (p : UInt8 -> Bool) : ∀ (s : Bs) (b : UInt8), b ∈ s.takeWhile p -> p b = true
 | [], b, h => by simp at h
 | a :: s, b, h => by
   rw [List.takeWhile_cons] at h
   split at h
   · simp only [List.mem_cons] at h
     rcases h with rfl | h
     · assumption
     · exact zbv p s b h
   · simp at h
theorem zcT {b : UInt8} (h : zaz b = true) : b = 32 \/ b = 9 \/ b = 10 \/ b = 13 := by
 simp only [zaz, Bool.or_eq_true, beq_iff_eq] at h
 rcases h with ((h | h) | h) | h <;> simp [h]
def Wok (w : Wd) : Prop := ∃ s, wordS s = some w
theorem ze1 {w : Wd} (hw : Wok w) {b : UInt8} (hb : zaz b = true) (r : Bs) : wordS (w.text ++ b :: r) = some w /\ betw (w.text ++ b :: r) = w.text ++ b :: r /\ w.text ≠ [] := by
 obtain ⟨s, h⟩ := hw
 have hN : zaC b = false := by rcases zcT hb with rfl | rfl | rfl | rfl <;> decide
 have hD : zay b = false := by rcases zcT hb with rfl | rfl | rfl | rfl <;> decide
 cases s with
 | nil => simp [wordS] at h
 | cons c q =>
   have key : ∀ t : Bs, (∃ q', t = c :: q') -> zaz c = false -> c ≠ 45 -> betw (t ++ b :: r) = t ++ b :: r := by
    rintro _ ⟨q', rfl⟩ h1 h2
    rw [List.cons_append]
    refine zeu h1 fun x hx => ?_
    simp only [List.cons.injEq] at hx
    exact h2 hx.1
   have hch : ∀ n : Fin 256, (zbC (UInt8.ofNat n.val) = true \/ zay (UInt8.ofNat n.val) = true) -> zaz (UInt8.ofNat n.val) = false /\ UInt8.ofNat n.val ≠ 45 := by decide +kernel
   have hch' : (zbC c = true \/ zay c = true) -> zaz c = false /\ c ≠ 45 := by
    have := hch ⟨c.toNat, c.toNat_lt⟩
    simpa using this
   simp only [wordS] at h
   split at h
   · rename_i hL
     obtain ⟨t, ht⟩ : ∃ t, t = (c :: q).takeWhile zaC := ⟨_, rfl⟩
     have htc : ∃ q', t = c :: q' := by rw [ht, List.takeWhile_cons, if_pos (by simp [zaC, hL])]; exact ⟨_, rfl⟩
     have htn : (t ++ b :: r).takeWhile zaC = t := zef _ _ _ _ (fun x hx => zbv _ (c :: q) x (by rw [<- ht]; exact hx)) hN
     rw [<- ht] at h
     have hwt : w.text = t /\ wordS (t ++ b :: r) = some w := by
      obtain ⟨q', rfl⟩ := htc
      rw [List.cons_append] at htn ⊢
      simp only [wordS, hL, if_true, htn]
      split at h
      · rename_i hk
        simp only [Option.some.injEq] at h; subst h
        simp [hk]
      · rename_i hk
        split at h
        · rename_i hk2
          simp only [Option.some.injEq] at h; subst h
          simp [hk]
          simpa using hk2
        · simp at h
     rw [hwt.1]
     exact ⟨hwt.2, key t htc (hch' (.inl hL)).1 (hch' (.inl hL)).2, by obtain ⟨q', rfl⟩ := htc; simp⟩
   · rename_i hL
     split at h
     · rename_i hDc
       obtain ⟨t, ht⟩ : ∃ t, t = (c :: q).takeWhile zay := ⟨_, rfl⟩
       have htc : ∃ q', t = c :: q' := by rw [ht, List.takeWhile_cons, if_pos hDc]; exact ⟨_, rfl⟩
       have htn : (t ++ b :: r).takeWhile zay = t := zef _ _ _ _ (fun x hx => zbv _ (c :: q) x (by rw [<- ht]; exact hx)) hD
       rw [<- ht] at h
       have hwt : w.text = t /\ wordS (t ++ b :: r) = some w := by
        obtain ⟨q', rfl⟩ := htc
        rw [List.cons_append] at htn ⊢
        simp only [wordS, hL, hDc, if_true, htn, Bool.false_eq_true, if_false]
        split at h
        · rename_i hk
          simp only [Option.some.injEq] at h; subst h
          rw [if_pos hk]
          exact ⟨rfl, rfl⟩
        · simp at h
       rw [hwt.1]
       exact ⟨hwt.2, key t htc (hch' (.inr hDc)).1 (hch' (.inr hDc)).2, by obtain ⟨q', rfl⟩ := htc; simp⟩
     · split at h
       · rename_i t ht
         simp only [Option.some.injEq] at h; subst h
         have hm := List.mem_of_find?_eq_some ht
         simp only [signs, List.mem_cons, List.not_mem_nil, or_false] at hm
         rcases hm with rfl | rfl | rfl | rfl | rfl | rfl | rfl | rfl | rfl | rfl | rfl | rfl | rfl | rfl | rfl | rfl <;>
          (refine ⟨?_, zeu (by decide) (by rcases zcT hb with rfl | rfl | rfl | rfl <;> simp), by simp⟩
           rcases zcT hb with rfl | rfl | rfl | rfl <;> rfl)
       · simp at h
theorem zes {n : Nat} : ∀ (k : Nat) (s : Bs), s.length < k -> ∀ l, cutS n s = .ok l -> (∀ w ∈ l, Wok w.2) /\ l.length + (l.map fun w => w.2.text.length).sum <= 2 * s.length /\ (l.map fun w => w.2.text.length).sum <= s.length
 | 0, s, h, _, _ => by omega
 | k + 1, s, hk, l, h => by
   cases h1 : betw s with
   | nil => rw [zet h1] at h; simp only [Except.ok.injEq] at h; subst h; simp
   | cons c q =>
     cases hw : wordS (c :: q) with
     | none => rw [zfo h1 hw] at h; simp at h
     | some w =>
       rw [zds h1 hw] at h
       have hle : (c :: q).length <= s.length := by rw [<- h1]; exact betw_le s
       obtain ⟨⟨r, hr⟩, hne⟩ := zdy hw
       have h0 : w.text.length ≠ 0 := by simpa using hne
       have hlen : w.text.length + r.length = (c :: q).length := by rw [<- hr]; simp
       have hd : (c :: q).drop w.text.length = r := by rw [<- hr]; exact List.drop_left
       rw [hd] at h
       split at h
       · rename_i l' hl'
         simp only [Except.ok.injEq] at h; subst h
         obtain ⟨a1, a2, a3⟩ := zes k r (by omega) l' hl'
         refine ⟨?_, ?_, ?_⟩
         · intro x hx
           simp only [List.mem_cons] at hx
           rcases hx with rfl | hx
           · exact ⟨_, hw⟩
           · exact a1 x hx
         · simp only [List.length_cons, List.map_cons, List.sum_cons]; simp only [List.length_cons] at hlen hle; omega
         · simp only [List.map_cons, List.sum_cons]; simp only [List.length_cons] at hlen hle; omega
       · simp at h
def ones : Bs := [40,41,58,59,44,61,43,45,42,47,60,62]
theorem cut_blank {n : Nat} {b : UInt8} {s : Bs} (h : zaz b = true) : cutS n (b :: s) = cutS n s := zgN (zgQ h)
def Cuts (n : Nat) (s : Bs) (L : List Wd) : Prop := ∃ l, cutS n s = .ok l /\ l.map (·.2) = L
theorem Cuts.blank {n : Nat} {s : Bs} {L : List Wd} (h : Cuts n s L) : Cuts n (32 :: s) L := by
 obtain ⟨l, h1, h2⟩ := h
 exact ⟨l, (cut_blank rfl).trans h1, h2⟩
theorem Cuts.nil {n : Nat} : Cuts n [] [] := ⟨[], zet (by simp [ziC]), rfl⟩
end Go.Lex
namespace Go.Syn
open Go.Lex
def sgl : List UInt8 := [40, 41, 44, 58, 59, 61]
theorem word_sign {w : Wd} (hw : Wok w) (hk4 : w.kind ≠ 4) {b : UInt8} (hN : zaC b = false) (r : Bs) : wordS (w.text ++ b :: r) = some w /\ betw (w.text ++ b :: r) = w.text ++ b :: r /\ w.text ≠ [] := by
 obtain ⟨s, h⟩ := hw
 have hD : zay b = false := by
  simp only [zaC, Bool.or_eq_false_iff] at hN
  exact hN.1.2
 cases s with
 | nil => simp [wordS] at h
 | cons c q =>
   have key : ∀ t : Bs, (∃ q', t = c :: q') -> zaz c = false -> c ≠ 45 -> betw (t ++ b :: r) = t ++ b :: r := by
    rintro _ ⟨q', rfl⟩ h1 h2
    rw [List.cons_append]
    refine zeu h1 fun x hx => ?_
    simp only [List.cons.injEq] at hx
    exact h2 hx.1
   have hch : ∀ n : Fin 256, (zbC (UInt8.ofNat n.val) = true \/ zay (UInt8.ofNat n.val) = true) -> zaz (UInt8.ofNat n.val) = false /\ UInt8.ofNat n.val ≠ 45 := by decide +kernel
   have hch' : (zbC c = true \/ zay c = true) -> zaz c = false /\ c ≠ 45 := by
    have := hch ⟨c.toNat, c.toNat_lt⟩
    simpa using this
   simp only [wordS] at h
   split at h
   · rename_i hL
     obtain ⟨t, ht⟩ : ∃ t, t = (c :: q).takeWhile zaC := ⟨_, rfl⟩
     have htc : ∃ q', t = c :: q' := by rw [ht, List.takeWhile_cons, if_pos (by simp [zaC, hL])]; exact ⟨_, rfl⟩
     have htn : (t ++ b :: r).takeWhile zaC = t := zef _ _ _ _ (fun x hx => zbv _ (c :: q) x (by rw [<- ht]; exact hx)) hN
     rw [<- ht] at h
     have hwt : w.text = t /\ wordS (t ++ b :: r) = some w := by
      obtain ⟨q', rfl⟩ := htc
      rw [List.cons_append] at htn ⊢
      simp only [wordS, hL, if_true, htn]
      split at h
      · rename_i hk
        simp only [Option.some.injEq] at h; subst h
        simp [hk]
      · rename_i hk
        split at h
        · rename_i hk2
          simp only [Option.some.injEq] at h; subst h
          simp [hk]
          simpa using hk2
        · simp at h
     rw [hwt.1]
     exact ⟨hwt.2, key t htc (hch' (.inl hL)).1 (hch' (.inl hL)).2, by obtain ⟨q', rfl⟩ := htc; simp⟩
   · rename_i hL
     split at h
     · rename_i hDc
       obtain ⟨t, ht⟩ : ∃ t, t = (c :: q).takeWhile zay := ⟨_, rfl⟩
       have htc : ∃ q', t = c :: q' := by rw [ht, List.takeWhile_cons, if_pos hDc]; exact ⟨_, rfl⟩
       have htn : (t ++ b :: r).takeWhile zay = t := zef _ _ _ _ (fun x hx => zbv _ (c :: q) x (by rw [<- ht]; exact hx)) hD
       rw [<- ht] at h
       have hwt : w.text = t /\ wordS (t ++ b :: r) = some w := by
        obtain ⟨q', rfl⟩ := htc
        rw [List.cons_append] at htn ⊢
        simp only [wordS, hL, hDc, if_true, htn, Bool.false_eq_true, if_false]
        split at h
        · rename_i hk
          simp only [Option.some.injEq] at h; subst h
          rw [if_pos hk]
          exact ⟨rfl, rfl⟩
        · simp at h
       rw [hwt.1]
       exact ⟨hwt.2, key t htc (hch' (.inr hDc)).1 (hch' (.inr hDc)).2, by obtain ⟨q', rfl⟩ := htc; simp⟩
     · split at h
       · rename_i t ht
         simp only [Option.some.injEq] at h; subst h
         exact absurd rfl hk4
       · simp at h
theorem Cuts.of {n : Nat} {w : Wd} {x : Bs} {L : List Wd} (g : wordS (w.text ++ x) = some w /\ betw (w.text ++ x) = w.text ++ x /\ w.text ≠ []) (h : Cuts n x L) : Cuts n (w.text ++ x) (w :: L) := by
 obtain ⟨g1, g2, g3⟩ := g
 obtain ⟨l, h1, h2⟩ := h
 obtain ⟨c, q, hc⟩ : ∃ c q, w.text ++ x = c :: q := by
  cases h : w.text with
  | nil => exact absurd h g3
  | cons c q => exact ⟨c, _, rfl⟩
 have e2 : (c :: q).drop w.text.length = x := by rw [<- hc, List.drop_left]
 refine ⟨(n - (c :: q).length, w) :: l, ?_, by simp [h2]⟩
 rw [hc] at g1 g2 ⊢
 rw [zds g2 g1, e2, h1]
theorem Cuts.blanks {n : Nat} {L : List Wd} : ∀ (sep : Bs) (q : Bs), (∀ b ∈ sep, zaz b = true) -> Cuts n q L -> Cuts n (sep ++ q) L
 | [], q, _, h => h
 | b :: sep, q, hb, h => by
   obtain ⟨l, h1, h2⟩ := Cuts.blanks sep q (fun x hx => hb x (by simp [hx])) h
   exact ⟨l, by rw [List.cons_append, zgN (zgQ (hb b (by simp))), h1], h2⟩
theorem sgl_word {c : UInt8} (hc : c ∈ sgl) (x : Bs) : wordS (([c] : Bs) ++ x) = some ⟨4, [c], 0⟩ /\ betw (([c] : Bs) ++ x) = [c] ++ x /\ ([c] : Bs) ≠ [] := by
 simp only [sgl, List.mem_cons, List.not_mem_nil, or_false] at hc
 rcases hc with rfl | rfl | rfl | rfl | rfl | rfl <;> exact ⟨rfl, zeu (by decide) (by simp), by simp⟩
def dec (n : Nat) : Bs := if n < 10 then [UInt8.ofNat (48 + n)] else dec (n / 10) ++ [UInt8.ofNat (48 + n % 10)]
termination_by n
decreasing_by omega
theorem zfR (n : Nat) (h : n < 10) : (UInt8.ofNat (48 + n)).toNat = 48 + n := by
 rw [UInt8.toNat_ofNat']; omega
theorem zjp (s : Bs) (b : UInt8) : za9 (s ++ [b]) = 10 * za9 s + (b.toNat - 48) := by
 simp [za9]
theorem dec_ok (n : Nat) : (∀ b ∈ dec n, zay b = true) /\ za9 (dec n) = n /\ (n < 10 /\ (dec n).length = 1 \/ ∃ c q, dec n = c :: q /\ c ≠ 48) /\ dec n ≠ [] := by
 induction n using dec.induct with
 | case1 n h =>
   rw [dec, if_pos h]
   have := zfR n h
   refine ⟨?_, ?_, .inl ⟨h, rfl⟩, by simp⟩
   · intro b hb
     simp only [List.mem_singleton] at hb
     subst hb
     simp [zay]; omega
   · simp [za9]; omega
 | case2 n h ih =>
   rw [dec, if_neg h]
   obtain ⟨h1, h2, h3, h4⟩ := ih
   have := zfR (n % 10) (by omega)
   refine ⟨?_, ?_, ?_, by simp⟩
   · intro b hb
     simp only [List.mem_append, List.mem_singleton] at hb
     rcases hb with hb | rfl
     · exact h1 b hb
     · simp [zay]; omega
   · rw [zjp, h2]; omega
   · right
     rcases h3 with ⟨h5, h6⟩ | ⟨c, q, h5, h6⟩
     · rw [dec, if_pos h5]
       refine ⟨_, _, rfl, fun e => ?_⟩
       have := zfR (n / 10) h5
       rw [e] at this
       simp at this
       omega
     · exact ⟨c, q ++ [UInt8.ofNat (48 + n % 10)], by rw [h5]; rfl, h6⟩
theorem zee (p : UInt8 -> Bool) : ∀ s : Bs, (∀ b ∈ s, p b = true) -> s.takeWhile p = s
 | [], _ => rfl
 | b :: s, h => by rw [List.takeWhile_cons, if_pos (h b (by simp)), zee p s fun x hx => h x (by simp [hx])]
theorem dec_word (n : Nat) (hn : n < 9223372036854775808) : Wok ⟨3, dec n, n⟩ := by
 obtain ⟨h1, h2, h3, h4⟩ := dec_ok n
 cases hd : dec n with
 | nil => exact absurd hd h4
 | cons c q =>
   rw [hd] at h1 h2 h3
   refine ⟨c :: q, ?_⟩
   have hc := h1 c (by simp)
   have hL : zbC c = false := by
    have : ∀ n : Fin 256, zay (UInt8.ofNat n.val) = true -> zbC (UInt8.ofNat n.val) = false := by decide +kernel
    have := this ⟨c.toNat, c.toNat_lt⟩
    simpa using this (by simpa using hc)
   simp only [wordS, hL, hc, if_true, Bool.false_eq_true, if_false, zee zay (c :: q) h1, h2]
   have hh : (c :: q).length = 1 \/ c ≠ 48 := by
    rcases h3 with ⟨_, h⟩ | ⟨c', q', h, h'⟩
    · exact .inl h
    · simp only [List.cons.injEq] at h
      exact .inr (h.1 ▸ h')
   rw [if_pos ⟨hn, hh⟩]
def sInt : Bs := [105, 110, 116]
def sBool : Bs := [98, 111, 111, 108]
def sVar : Bs := [118, 97, 114]
def sCall : Bs := [99, 97, 108, 108]
def sNot : Bs := [110, 111, 116]
def sPre : Bs := [112, 114, 101]
def sNeg : Bs := [110, 101, 103]
def sWhen : Bs := [119, 104, 101, 110]
def sIf : Bs := [105, 102]
def sThen : Bs := [116, 104, 101, 110]
def sElse : Bs := [101, 108, 115, 101]
def sMerge : Bs := [109, 101, 114, 103, 101]
def sTrue : Bs := [116, 114, 117, 101]
def sFalse : Bs := [102, 97, 108, 115, 101]
def sFby : Bs := [102, 98, 121]
def lp : Wd := ⟨4, [40], 0⟩
def rp : Wd := ⟨4, [41], 0⟩
def cm : Wd := ⟨4, [44], 0⟩
def kw (s : Bs) : Wd := ⟨2, s, 0⟩
def sg (s : Bs) : Wd := ⟨4, s, 0⟩
def nmW (s : Bs) : Wd := ⟨1, s, 0⟩
def opsW : List Wd := [sg [45, 62], kw [111, 114], kw [120, 111, 114], kw [97, 110, 100], sg [61], sg [60, 62], sg [60], sg [60, 61], sg [62], sg [62, 61], sg [43], sg [45], sg [42], sg [47], kw [109, 111, 100], kw sFby]
def unsW : List (Bs × Wd) := [(sNot, kw sNot), (sPre, kw sPre), (sNeg, sg [45])]
mutual
def Ex.er : Ex -> Ex
 | .mk op name n _ kids => .mk op name n 0 (Ex.ers kids)
def Ex.ers : List Ex -> List Ex
 | [] => []
 | e :: l => e.er :: Ex.ers l
end
mutual
inductive Tr : Ex -> List Wd -> Bs -> Prop
 | int {n pos : Nat} (h : n < 9223372036854775808) : Tr (.mk sInt [] n pos []) [⟨3, dec n, n⟩] (dec n)
 | tt {pos : Nat} : Tr (.mk sBool [] 1 pos []) [kw sTrue] sTrue
 | ff {pos : Nat} : Tr (.mk sBool [] 0 pos []) [kw sFalse] sFalse
 | var {nm : Bs} {pos : Nat} (h : Wok (nmW nm)) : Tr (.mk sVar nm 0 pos []) [nmW nm] nm
 | call0 {nm : Bs} {pos : Nat} (h : Wok (nmW nm)) : Tr (.mk sCall nm 0 pos []) [nmW nm, lp, rp] (nm ++ [40, 41])
 | call {nm : Bs} {pos : Nat} {e : Ex} {l : List Ex} {w ws : List Wd} {t ts : Bs} (h : Wok (nmW nm)) (he : Tr e w t) (hl : Trs l ws ts) : Tr (.mk sCall nm 0 pos (e :: l)) (nmW nm :: lp :: (w ++ (ws ++ [rp]))) (nm ++ (40 :: (t ++ (ts ++ [41]))))
 | un {op : Bs} {o : Wd} {pos : Nat} {k : Ex} {w : List Wd} {t : Bs} (ho : (op, o) ∈ unsW) (hk : Tr k w t) : Tr (.mk op [] 0 pos [k]) (lp :: o :: (w ++ [rp])) (40 :: (o.text ++ (32 :: (t ++ [41]))))
 | whn {nm : Bs} {pos : Nat} {k : Ex} {w : List Wd} {t : Bs} (h : Wok (nmW nm)) (hk : Tr k w t) : Tr (.mk sWhen nm 1 pos [k]) (lp :: (w ++ [kw sWhen, nmW nm, rp])) (40 :: (t ++ (32 :: (sWhen ++ (32 :: (nm ++ [41]))))))
 | whnot {nm : Bs} {pos : Nat} {k : Ex} {w : List Wd} {t : Bs} (h : Wok (nmW nm)) (hk : Tr k w t) : Tr (.mk sWhen nm 0 pos [k]) (lp :: (w ++ [kw sWhen, kw sNot, nmW nm, rp])) (40 :: (t ++ (32 :: (sWhen ++ (32 :: (sNot ++ (32 :: (nm ++ [41]))))))))
 | ite {pos : Nat} {a b c : Ex} {u v w : List Wd} {ta tb tc : Bs} (ha : Tr a u ta) (hb : Tr b v tb) (hc : Tr c w tc) : Tr (.mk sIf [] 0 pos [a, b, c]) (lp :: kw sIf :: (u ++ (kw sThen :: (v ++ (kw sElse :: (w ++ [rp])))))) (40 :: (sIf ++ (32 :: (ta ++ (32 :: (sThen ++ (32 :: (tb ++ (32 :: (sElse ++ (32 :: (tc ++ [41]))))))))))))
 | merge {nm : Bs} {pos : Nat} {a b : Ex} {u v : List Wd} {ta tb : Bs} (h : Wok (nmW nm)) (ha : Trp a u ta) (hb : Trp b v tb) : Tr (.mk sMerge nm 0 pos [a, b]) (lp :: kw sMerge :: nmW nm :: (u ++ (v ++ [rp]))) (40 :: (sMerge ++ (32 :: (nm ++ (32 :: (ta ++ (32 :: (tb ++ [41]))))))))
 | bin {o : Wd} {pos : Nat} {a b : Ex} {u v : List Wd} {ta tb : Bs} (ho : o ∈ opsW) (ha : Tr a u ta) (hb : Tr b v tb) : Tr (.mk o.text [] 0 pos [a, b]) (lp :: (u ++ (o :: (v ++ [rp])))) (40 :: (ta ++ (32 :: (o.text ++ (32 :: (tb ++ [41]))))))
inductive Trs : List Ex -> List Wd -> Bs -> Prop
 | nil : Trs [] [] []
 | cons {e : Ex} {l : List Ex} {w ws : List Wd} {t ts : Bs} (he : Tr e w t) (hl : Trs l ws ts) : Trs (e :: l) (cm :: (w ++ ws)) (44 :: 32 :: (t ++ ts))
inductive Trp : Ex -> List Wd -> Bs -> Prop
 | var {nm : Bs} {pos : Nat} (h : Wok (nmW nm)) : Trp (.mk sVar nm 0 pos []) [lp, nmW nm, rp] (40 :: (nm ++ [41]))
 | of {op nm : Bs} {n pos : Nat} {ks : List Ex} {w : List Wd} {t : Bs} (hn : op ≠ sVar) (h : Tr (.mk op nm n pos ks) w t) : Trp (.mk op nm n pos ks) w t
end
theorem Wok.kw {s : Bs} (h : s ∈ keptWords) : Wok (kw s) := ⟨s, (by decide +kernel : ∀ s ∈ keptWords, wordS s = some (Syn.kw s)) s h⟩
theorem Wok.op {o : Wd} (h : o ∈ opsW) : Wok o := ⟨o.text, (by decide +kernel : ∀ o ∈ opsW, wordS o.text = some o) o h⟩
theorem un_sign {op : Bs} {o : Wd} (h : (op, o) ∈ unsW) : Wok o := ⟨o.text, (by decide +kernel : ∀ p ∈ unsW, wordS p.2.text = some p.2) (op, o) h⟩
theorem Cuts.sg {n : Nat} {c : UInt8} {q : Bs} {L : List Wd} (hc : c ∈ sgl) (h : Cuts n q L) : Cuts n (c :: q) (⟨4, [c], 0⟩ :: L) := Cuts.of (w := ⟨4, [c], 0⟩) (sgl_word hc q) h
theorem zck {n : Nat} {q : Bs} {L : List Wd} (h : Cuts n q L) : Cuts n (40 :: q) (lp :: L) := Cuts.sg (by decide) h
theorem zdr {n : Nat} {q : Bs} {L : List Wd} (h : Cuts n q L) : Cuts n (41 :: q) (rp :: L) := Cuts.sg (by decide) h
theorem cuts_cm {n : Nat} {q : Bs} {L : List Wd} (h : Cuts n q L) : Cuts n (44 :: q) (cm :: L) := Cuts.sg (by decide) h
theorem Cuts.wb {n : Nat} {w : Wd} {q : Bs} {L : List Wd} (hw : Wok w) (h : Cuts n q L) : Cuts n (w.text ++ 32 :: q) (w :: L) := Cuts.of (ze1 hw (by decide) q) h.blank
theorem Cuts.ws {n : Nat} {w : Wd} {b : UInt8} {q : Bs} {L : List Wd} (hw : Wok w) (hk : w.kind ≠ 4) (hb : zaC b = false) (h : Cuts n (b :: q) L) : Cuts n (w.text ++ b :: q) (w :: L) := Cuts.of (word_sign hw hk hb q) h
def CutE (n : Nat) (w : List Wd) (t : Bs) : Prop := ∀ (b : UInt8) (q : Bs) (L : List Wd), zaC b = false -> Cuts n (b :: q) L -> Cuts n (t ++ b :: q) (w ++ L)
theorem CutE.bl {n : Nat} {w : List Wd} {t q : Bs} {L : List Wd} (h : CutE n w t) (hq : Cuts n q L) : Cuts n (t ++ 32 :: q) (w ++ L) := h 32 q L (by decide) hq.blank
theorem CutE.rp {n : Nat} {w : List Wd} {t q : Bs} {L : List Wd} (h : CutE n w t) (hq : Cuts n q L) : Cuts n (t ++ 41 :: q) (w ++ (rp :: L)) := h 41 q _ (by decide) (zdr hq)
mutual
theorem zbJ {n : Nat} : ∀ {e : Ex} {w : List Wd} {t : Bs}, Tr e w t -> CutE n w t
 | _, _, _, .int h => fun b q L hb hq => Cuts.ws (dec_word _ h) (by decide : (3 : Nat) ≠ 4) hb hq
 | _, _, _, .tt => fun b q L hb hq => Cuts.ws (Wok.kw (s := sTrue) (by decide)) (by decide) hb hq
 | _, _, _, .ff => fun b q L hb hq => Cuts.ws (Wok.kw (s := sFalse) (by decide)) (by decide) hb hq
 | _, _, _, .var h => fun b q L hb hq => Cuts.ws h (by decide : (1 : Nat) ≠ 4) hb hq
 | _, _, _, .call0 h => fun b q L hb hq => by
   simp only [List.append_assoc, List.cons_append, List.nil_append]
   exact Cuts.ws h (by decide : (1 : Nat) ≠ 4) (by decide) (zck (zdr hq))
 | _, _, _, .call h he hl => fun b q L hb hq => by
   simp only [List.append_assoc, List.cons_append, List.nil_append]
   exact Cuts.ws h (by decide : (1 : Nat) ≠ 4) (by decide) (zck (trs_cuts hl (zbJ he) (zdr hq)))
 | _, _, _, .un ho hk => fun b q L hb hq => by
   simp only [List.append_assoc, List.cons_append, List.nil_append]
   exact zck (Cuts.wb (un_sign ho) ((zbJ hk).rp hq))
 | _, _, _, .whn h hk => fun b q L hb hq => by
   simp only [List.append_assoc, List.cons_append, List.nil_append]
   exact zck ((zbJ hk).bl (Cuts.wb (w := kw sWhen) (Wok.kw (by decide)) (Cuts.ws h (by decide : (1 : Nat) ≠ 4) (by decide) (zdr hq))))
 | _, _, _, .whnot h hk => fun b q L hb hq => by
   simp only [List.append_assoc, List.cons_append, List.nil_append]
   exact zck ((zbJ hk).bl (Cuts.wb (w := kw sWhen) (Wok.kw (by decide)) (Cuts.wb (w := kw sNot) (Wok.kw (by decide)) (Cuts.ws h (by decide : (1 : Nat) ≠ 4) (by decide) (zdr hq)))))
 | _, _, _, .ite ha hb hc => fun b q L hb' hq => by
   simp only [List.append_assoc, List.cons_append, List.nil_append]
   exact zck (Cuts.wb (w := kw sIf) (Wok.kw (by decide)) ((zbJ ha).bl (Cuts.wb (w := kw sThen) (Wok.kw (by decide)) ((zbJ hb).bl (Cuts.wb (w := kw sElse) (Wok.kw (by decide)) ((zbJ hc).rp hq))))))
 | _, _, _, .merge h ha hb => fun b q L hb' hq => by
   simp only [List.append_assoc, List.cons_append, List.nil_append]
   exact zck (Cuts.wb (w := kw sMerge) (Wok.kw (by decide)) (Cuts.wb h ((trp_cuts ha).bl ((trp_cuts hb).rp hq))))
 | _, _, _, .bin ho ha hb => fun b q L hb' hq => by
   simp only [List.append_assoc, List.cons_append, List.nil_append]
   exact zck ((zbJ ha).bl (Cuts.wb (Wok.op ho) ((zbJ hb).rp hq)))
theorem trs_cuts {n : Nat} : ∀ {l : List Ex} {ws : List Wd} {ts : Bs}, Trs l ws ts -> ∀ {w : List Wd} {t : Bs}, CutE n w t -> ∀ {q : Bs} {L : List Wd}, Cuts n (41 :: q) L -> Cuts n (t ++ (ts ++ 41 :: q)) (w ++ (ws ++ L))
 | _, _, _, .nil => fun he => fun {_ L} hq => he 41 _ L (by decide) hq
 | _, _, _, .cons hf hl => fun he => fun hq => by
   simp only [List.append_assoc, List.cons_append]
   exact he 44 _ _ (by decide) (cuts_cm (Cuts.blank (trs_cuts hl (zbJ hf) hq)))
theorem trp_cuts {n : Nat} : ∀ {e : Ex} {w : List Wd} {t : Bs}, Trp e w t -> CutE n w t
 | _, _, _, .var h => fun b q L hb hq => by
   simp only [List.append_assoc, List.cons_append, List.nil_append]
   exact zck (Cuts.ws h (by decide : (1 : Nat) ≠ 4) (by decide) (zdr hq))
 | _, _, _, .of _ h => zbJ h
end
variable {W : Ws}
def sfx (W : Ws) (s : St) : List Wd := (W.drop s.i).map (·.2)
def At (W : Ws) (s : St) (ws : List Wd) : Prop := s.err = 0 /\ sfx W s = ws
def isW (w : Wd) (t : Bs) : Bool := (w.kind == 2 || w.kind == 4) && w.text == t
theorem zco {s : St} {w : Wd} {ws : List Wd} (h : sfx W s = w :: ws) : (at_ W s).2 = w /\ (∀ s' : St, s'.i = s.i + 1 -> sfx W s' = ws) := by
 unfold sfx at h
 cases hd : W.drop s.i with
 | nil => rw [hd] at h; simp at h
 | cons x l =>
   rw [hd] at h
   simp only [List.map_cons, List.cons.injEq] at h
   have hx : W[s.i]? = some x := by
    have := congrArg (·[0]?) hd
    simpa using this
   refine ⟨?_, fun s' hs => ?_⟩
   · unfold at_
     rw [List.getD_eq_getElem?_getD, hx]
     exact h.1
   · unfold sfx
     have : W.drop (s.i + 1) = l := by
      have := congrArg (List.drop 1) hd
      simpa [List.drop_drop, Nat.add_comm] using this
     rw [hs, this]
     exact h.2
theorem At.kind {s : St} {w : Wd} {ws : List Wd} (h : At W s (w :: ws)) : Syn.kind W s = w.kind := by unfold Syn.kind; rw [(zco h.2).1]
theorem At.text {s : St} {w : Wd} {ws : List Wd} (h : At W s (w :: ws)) : Syn.text W s = w.text := by unfold Syn.text; rw [(zco h.2).1]
theorem At.next {s s' : St} {w : Wd} {ws : List Wd} (h : At W s (w :: ws)) (hi : s'.i = s.i + 1) (he : s'.err = 0) : At W s' ws := ⟨he, (zco h.2).2 s' hi⟩
theorem At.same {s s' : St} {ws : List Wd} (h : At W s ws) (hi : s'.i = s.i) (he : s'.err = s.err) : At W s' ws := ⟨he.trans h.1, by unfold sfx; rw [hi]; exact h.2⟩
theorem At.is {s : St} {w : Wd} {ws : List Wd} (h : At W s (w :: ws)) (t : Bs) : Syn.is W s t = isW w t := by
 unfold Syn.is isW
 rw [h.kind, h.text, h.1]
 rfl
theorem At.one {s : St} {w : Wd} {ws : List Wd} (h : At W s (w :: ws)) (ts : List Bs) : Syn.one W s ts = ts.any (isW w) := by
 unfold Syn.one
 congr 1
 exact funext fun t => h.is t
theorem At.len {s : St} {ws : List Wd} (h : At W s ws) : ws.length <= W.length := by
 rw [<- h.2]
 unfold sfx
 simp
theorem zbp {s : St} (h : s.err ≠ 0) (t : Bs) : Syn.is W s t = false := by
 unfold Syn.is
 rw [beq_false_of_ne h]
 rfl
theorem zf4 {s : St} (h : s.err ≠ 0) (ts : List Bs) : Syn.one W s ts = false := by
 unfold Syn.one
 rw [List.any_eq_false]
 intro t _
 rw [zbp h]
 decide
theorem zbX {s : St} (h : s.err ≠ 0) (e : Nat) : fail W e s = s := by unfold fail; rw [if_neg h]
theorem fail_err {s : St} (h : s.err = 0) (e : Nat) : (fail W e s).err = e := by unfold fail; rw [if_pos h]
theorem zed {s : St} (h : s.err ≠ 0) (t : Bs) : take W s t = (false, s) := by unfold take; rw [zbp h]; rfl
theorem zaA {s : St} (h : s.err ≠ 0) (t : Bs) : want1 W s t = s := by
 unfold want1; rw [zbp h, if_neg (by decide), zbX h]
theorem zcM {s : St} (h : s.err ≠ 0) : name W s = ([], s) := by
 unfold name
 have h1 : (if kind W s = 1 then s else fail W 7 s) = s := by
  split
  · rfl
  · exact zbX h _
 simp only [h1, if_neg h]
theorem zd6 {s : St} (h : s.err ≠ 0) (last : Bool) : deeper W last s = (false, s) := by
 unfold deeper
 cases last
 · simp [h]
 · simp [zbX h, h]
def Stk {α : Type} (f : St -> α × St) : Prop := ∀ s, s.err ≠ 0 -> (f s).2.err = s.err
theorem Stk.two {α : Type} {f : St -> α × St} (h : Stk f) {s : St} (hs : s.err = 2) : (f s).2.err = 2 := (h s (by omega)).trans hs
theorem zbV (next : P) (ts : List Bs) {s : St} (h : s.err ≠ 0) (e : Ex) : ∀ k, rowL W next ts k e s = (e, s)
 | 0 => rfl
 | k + 1 => by rw [rowL, zf4 h]; rfl
theorem zbg {s : St} (h : s.err ≠ 0) (e : Ex) : ∀ k, whenL W k e s = (e, s)
 | 0 => rfl
 | k + 1 => by rw [whenL, zbp h]; rfl
theorem zcA (inn : P) {s : St} (h : s.err ≠ 0) (l : List Ex) : ∀ k, argsL W inn k l s = (l, s)
 | 0 => rfl
 | k + 1 => by rw [argsL, zbp h]; rfl
theorem zf0 {next : P} (hn : Stk next) (ts : List Bs) : Stk (row W next ts) := fun s h => by
 have h1 := hn s h
 unfold row
 simp only [zbV (W := W) next ts (s := (next s).2) (by rw [h1]; exact h), h1]
theorem zf1 {next : P} (hn : Stk next) (t : Bs) (last : Bool) (below : P) : Stk (right W next t last below) := fun s h => by
 have h1 := hn s h
 unfold right
 simp only [zbp (W := W) (s := (next s).2) (by rw [h1]; exact h)]
 exact h1
theorem zjC {next : P} (hn : Stk next) : Stk (cmp W next) := fun s h => by
 have h1 := hn s h
 unfold cmp
 simp only [zf4 (W := W) (s := (next s).2) (by rw [h1]; exact h)]
 exact h1
theorem zgY {next : P} (hn : Stk next) : Stk (when_ W next) := fun s h => by
 have h1 := hn s h
 unfold when_
 simp only [zbg (W := W) (s := (next s).2) (by rw [h1]; exact h), h1]
theorem zep (last : Bool) (below : P) : Stk (inner W last below) := fun s h => by
 unfold inner
 rw [zd6 h]
 rfl
theorem zhi (inn mer : P) : Stk (prim W inn mer) := fun s h => by
 unfold prim
 simp only
 rw [if_pos h]
theorem un_stk {pr : P} (hp : Stk pr) (last : Bool) (below : P) : Stk (un W pr last below) := fun s h => by
 unfold un
 rw [zf4 h]
 exact hp s h
def Fol (F : List Bs) (ws : List Wd) : Prop := ∃ w ws', ws = w :: ws' /\ ∀ t ∈ F, isW w t = false
theorem Fol.sub {F G : List Bs} {ws : List Wd} (h : Fol G ws) (hs : ∀ t ∈ F, t ∈ G) : Fol F ws := by
 obtain ⟨w, ws', e, h⟩ := h
 exact ⟨w, ws', e, fun t ht => h t (hs t ht)⟩
def Out (W : Ws) (r : Ex × St) (e : Ex) (ws : List Wd) (nm : Int) : Prop := r.2.err = 2 \/ (At W r.2 ws /\ r.2.names = nm /\ r.1.er = e.er)
def Rd (W : Ws) (p : List Wd -> Prop) (f : P) (e : Ex) (w : List Wd) : Prop := ∀ s ws, At W s (w ++ ws) -> p ws -> Out W (f s) e ws s.names
theorem Rd.mono {p q : List Wd -> Prop} {f : P} {e : Ex} {w : List Wd} (h : Rd W p f e w) (hq : ∀ ws, q ws -> p ws) : Rd W q f e w := fun s ws ha hf => h s ws ha (hq ws hf)
def mulT : List Bs := [[42], [47], [109, 111, 100]]
def addT : List Bs := [[43], [45]]
def cmpT : List Bs := [[61], [60, 62], [60], [60, 61], [62], [62, 61]]
def andT : List Bs := [[97, 110, 100]]
def orT : List Bs := [[111, 114], [120, 111, 114]]
def F0 : List Bs := [[40]]
def F1 : List Bs := F0 ++ [sWhen]
def F2 : List Bs := F1 ++ [sFby]
def F3 : List Bs := F2 ++ mulT
def F4 : List Bs := F3 ++ addT
def F5 : List Bs := F4 ++ cmpT
def F6 : List Bs := F5 ++ andT
def F7 : List Bs := F6 ++ orT
def F8 : List Bs := F7 ++ [[45, 62]]
theorem zhV {next : P} {ts : List Bs} {s : St} {w : Wd} {ws : List Wd} (h : At W s (w :: ws)) (hw : ∀ t ∈ ts, isW w t = false) (e : Ex) : ∀ k, rowL W next ts k e s = (e, s)
 | 0 => rfl
 | k + 1 => by
   rw [rowL, h.one, if_neg]
   rw [Bool.not_eq_true, List.any_eq_false]
   intro t ht
   rw [hw t ht]
   decide
theorem ze3 {s : St} {w : Wd} {ws : List Wd} (h : At W s (w :: ws)) (hw : isW w sWhen = false) (e : Ex) : ∀ k, whenL W k e s = (e, s)
 | 0 => rfl
 | k + 1 => by
   rw [whenL, h.is, show isW w [119, 104, 101, 110] = false from hw]
   rfl
theorem Rd.row {p : List Wd -> Prop} {f : P} {e : Ex} {w : List Wd} (h : Rd W p f e w) (ts : List Bs) (hp : ∀ ws, p ws -> Fol ts ws) : Rd W p (Syn.row W f ts) e w := fun s ws ha hf => by
 have h1 := h s ws ha hf
 obtain ⟨x, ws', rfl, hx⟩ := hp ws hf
 unfold Syn.row
 rcases h1 with h1 | ⟨h1, h2, h3⟩
 · exact .inl (by simp only [zbV (W := W) f ts (s := (f s).2) (by omega)]; exact h1)
 · simp only [zhV (next := f) (ts := ts) h1 hx]
   exact .inr ⟨h1, h2, h3⟩
theorem Rd.right {p : List Wd -> Prop} {f : P} {e : Ex} {w : List Wd} (h : Rd W p f e w) (t : Bs) (last : Bool) (below : P) (hp : ∀ ws, p ws -> Fol [t] ws) : Rd W p (Syn.right W f t last below) e w := fun s ws ha hf => by
 have h1 := h s ws ha hf
 obtain ⟨x, ws', rfl, hx⟩ := hp ws hf
 unfold Syn.right
 rcases h1 with h1 | ⟨h1, h2, h3⟩
 · exact .inl (by simp only [zbp (W := W) (s := (f s).2) (by omega)]; exact h1)
 · simp only [h1.is, hx t (by simp)]
   exact .inr ⟨h1, h2, h3⟩
theorem Rd.cmp {p : List Wd -> Prop} {f : P} {e : Ex} {w : List Wd} (h : Rd W p f e w) (hp : ∀ ws, p ws -> Fol cmpT ws) : Rd W p (Syn.cmp W f) e w := fun s ws ha hf => by
 have h1 := h s ws ha hf
 obtain ⟨x, ws', rfl, hx⟩ := hp ws hf
 unfold Syn.cmp
 rcases h1 with h1 | ⟨h1, h2, h3⟩
 · exact .inl (by simp only [zf4 (W := W) (s := (f s).2) (by omega)]; exact h1)
 · have : Syn.one W (f s).2 cmpT = false := by
    rw [h1.one, List.any_eq_false]
    intro t ht
    rw [hx t ht]
    decide
   simp only [show Syn.one W (f s).2 [[61], [60, 62], [60], [60, 61], [62], [62, 61]] = false from this]
   exact .inr ⟨h1, h2, h3⟩
theorem Rd.when_ {p : List Wd -> Prop} {f : P} {e : Ex} {w : List Wd} (h : Rd W p f e w) (hp : ∀ ws, p ws -> Fol [sWhen] ws) : Rd W p (Syn.when_ W f) e w := fun s ws ha hf => by
 have h1 := h s ws ha hf
 obtain ⟨x, ws', rfl, hx⟩ := hp ws hf
 unfold Syn.when_
 rcases h1 with h1 | ⟨h1, h2, h3⟩
 · exact .inl (by simp only [zbg (W := W) (s := (f s).2) (by omega)]; exact h1)
 · simp only [ze3 h1 (hx sWhen (by simp))]
   exact .inr ⟨h1, h2, h3⟩
variable {W : Ws}
theorem zbw {s : St} {w : Wd} {ws : List Wd} (h : At W s (w :: ws)) : (part W s).err = 2 \/ (At W (part W s) ws /\ (part W s).names = s.names) := by
 unfold part
 simp only
 by_cases hp : 300 < wrap (s.parts + 1)
 · rw [if_pos hp]
   have e : (fail W 2 { s with parts := wrap (s.parts + 1) }).err = 2 := fail_err (s := { s with parts := wrap (s.parts + 1) }) h.1 2
   rw [if_neg (by rw [e]; decide)]
   exact .inl e
 · rw [if_neg hp, if_pos (show ({ s with parts := wrap (s.parts + 1) } : St).err = 0 from h.1)]
   exact .inr ⟨h.next rfl h.1, rfl⟩
theorem zaG {s : St} {w : Wd} {ws : List Wd} {t : Bs} (h : At W s (w :: ws)) (hw : isW w t = true) : At W (want1 W s t) ws /\ (want1 W s t).names = s.names := by
 unfold want1
 rw [h.is, hw, if_pos rfl]
 exact ⟨h.next rfl h.1, rfl⟩
theorem zhc {s : St} {w : Wd} {ws : List Wd} {t : Bs} (h : At W s (w :: ws)) (hw : isW w t = true) : take W s t = (true, { s with i := s.i + 1 }) := by
 unfold take
 rw [h.is, hw, if_pos rfl]
theorem zfh {s : St} {w : Wd} {ws : List Wd} {t : Bs} (h : At W s (w :: ws)) (hw : isW w t = false) : take W s t = (false, s) := by
 unfold take
 rw [h.is, hw, if_neg (by decide)]
theorem zdj {s : St} {nm : Bs} {ws : List Wd} (h : At W s (nmW nm :: ws)) : name W s = (nm, { s with i := s.i + 1 }) := by
 unfold name
 simp only [show kind W s = 1 from h.kind, if_true, h.1, show Syn.text W s = nm from h.text]
theorem Out.want {r : Ex × St} {e : Ex} {w : Wd} {ws : List Wd} {t : Bs} {nm : Int} (h : Out W r e (w :: ws) nm) (hw : isW w t = true) : Out W (r.1, want1 W r.2 t) e ws nm := by
 rcases h with h | ⟨h1, h2, h3⟩
 · exact .inl (by show (want1 W r.2 t).err = 2; rw [zaA (by omega)]; exact h)
 · exact .inr ⟨(zaG h1 hw).1, (zaG h1 hw).2.trans h2, h3⟩
theorem nm_kept {nm : Bs} (h : Wok (nmW nm)) : kept nm = false := by
 obtain ⟨s, h⟩ := h
 cases s with
 | nil => simp [wordS] at h
 | cons c q =>
   simp only [wordS] at h
   split at h
   · split at h
     · simp [nmW] at h
     · rename_i hk
       split at h
       · simp only [Option.some.injEq, nmW, Wd.mk.injEq, true_and, and_true] at h
         rw [<- h]
         simpa using hk
       · simp at h
   · split at h
     · split at h
       · simp [nmW] at h
       · simp at h
     · split at h
       · simp [nmW] at h
       · simp at h
theorem nm_ne {nm : Bs} (h : Wok (nmW nm)) {k : Bs} (hk : k ∈ keptWords) : nm ≠ k := by
 rintro rfl
 have := nm_kept h
 unfold kept at this
 rw [List.contains_iff_mem.2 hk] at this
 simp at this
inductive Cont : Ex -> List Wd -> Prop
 | tr {e : Ex} {w : List Wd} {t : Bs} (h : Tr e w t) : Cont e w
 | un {op : Bs} {o : Wd} {pos : Nat} {k : Ex} {w : List Wd} {t : Bs} (ho : (op, o) ∈ unsW) (hk : Tr k w t) : Cont (.mk op [] 0 pos [k]) (o :: w)
 | whn {nm : Bs} {pos : Nat} {k : Ex} {w : List Wd} {t : Bs} (h : Wok (nmW nm)) (hk : Tr k w t) : Cont (.mk sWhen nm 1 pos [k]) (w ++ [kw sWhen, nmW nm])
 | whnot {nm : Bs} {pos : Nat} {k : Ex} {w : List Wd} {t : Bs} (h : Wok (nmW nm)) (hk : Tr k w t) : Cont (.mk sWhen nm 0 pos [k]) (w ++ [kw sWhen, kw sNot, nmW nm])
 | ite {pos : Nat} {a b c : Ex} {u v w : List Wd} {ta tb tc : Bs} (ha : Tr a u ta) (hb : Tr b v tb) (hc : Tr c w tc) : Cont (.mk sIf [] 0 pos [a, b, c]) (kw sIf :: (u ++ (kw sThen :: (v ++ (kw sElse :: w)))))
 | merge {nm : Bs} {pos : Nat} {a b : Ex} {u v : List Wd} {ta tb : Bs} (h : Wok (nmW nm)) (ha : Trp a u ta) (hb : Trp b v tb) : Cont (.mk sMerge nm 0 pos [a, b]) (kw sMerge :: nmW nm :: (u ++ v))
 | bin {o : Wd} {pos : Nat} {a b : Ex} {u v : List Wd} {ta tb : Bs} (ho : o ∈ opsW) (ha : Tr a u ta) (hb : Tr b v tb) : Cont (.mk o.text [] 0 pos [a, b]) (u ++ (o :: v))
def Rp (ws : List Wd) : Prop := ∃ ws', ws = rp :: ws'
theorem Rp.fol {F : List Bs} (h : ∀ t ∈ F, isW rp t = false) {ws : List Wd} : Rp ws -> Fol F ws := fun ⟨ws', e⟩ => ⟨rp, ws', e, h⟩
structure LvOk (W : Ws) (L : Lv) : Prop where
 part : ∀ e w t, Trp e w t -> ∀ s ws, At W s (w ++ ws) -> Out W (L.prim s) e ws s.names
 un : ∀ e w t, Tr e w t -> Rd W (Fol F0) L.un e w
 fby : ∀ e w t, Tr e w t -> Rd W (Fol F2) L.fby e w
 expr : ∀ e w t, Tr e w t -> Rd W (Fol F8) L.expr e w
 cont : ∀ e w, Cont e w -> Rd W Rp L.expr e w
theorem zgC {below : P} {s : St} (h : s.err = 0) : (inner W true below s).2.err = 2 := by
 unfold inner deeper
 simp [fail_err h]
theorem zis {below : P} {s : St} (h : s.err = 0) : inner W false below s = below s := by
 unfold inner deeper
 simp [h]
theorem Rd.inner {p : List Wd -> Prop} {below : P} {e : Ex} {w : List Wd} {last : Bool} (h : last = false -> Rd W p below e w) : Rd W p (Syn.inner W last below) e w := fun s ws ha hf => by
 cases last
 · rw [zis ha.1]; exact h rfl s ws ha hf
 · exact .inl (zgC ha.1)
def Hd (w : List Wd) : Prop := ∃ x xs, w = x :: xs /\ isW x sNot = false /\ isW x [45] = false /\ isW x sPre = false /\ isW x [41] = false
theorem tr_head {e : Ex} {w : List Wd} {t : Bs} (h : Tr e w t) : Hd w := by
 cases h <;> exact ⟨_, _, rfl, by rfl, by rfl, by rfl, by rfl⟩
theorem Rd.un {p : List Wd -> Prop} {pr : P} {e : Ex} {w : List Wd} (h : Rd W p pr e w) (hw : Hd w) (last : Bool) (below : P) : Rd W p (Syn.un W pr last below) e w := fun s ws ha hf => by
 obtain ⟨x, xs, rfl, h1, h2, h3, _⟩ := hw
 have : Syn.one W s [sNot, [45], sPre] = false := by
  rw [At.one (ws := xs ++ ws) ha]
  simp [h1, h2, h3]
 unfold Syn.un
 rw [show Syn.one W s [[110, 111, 116], [45], [112, 114, 101]] = false from this]
 exact h s ws ha hf
def whnF (W : Ws) (u : P) : P := Syn.when_ W u
def fbyF (W : Ws) (last : Bool) (b : Lv) (u : P) : P := Syn.right W (whnF W u) sFby last b.fby
def mulF (W : Ws) (last : Bool) (b : Lv) (u : P) : P := Syn.row W (fbyF W last b u) mulT
def addF (W : Ws) (last : Bool) (b : Lv) (u : P) : P := Syn.row W (mulF W last b u) addT
def cmpF (W : Ws) (last : Bool) (b : Lv) (u : P) : P := Syn.cmp W (addF W last b u)
def andF (W : Ws) (last : Bool) (b : Lv) (u : P) : P := Syn.row W (cmpF W last b u) andT
def orF (W : Ws) (last : Bool) (b : Lv) (u : P) : P := Syn.row W (andF W last b u) orT
def exprF (W : Ws) (last : Bool) (b : Lv) (u : P) : P := Syn.right W (orF W last b u) [45, 62] last b.expr
section levels
variable {last : Bool} {b : Lv} {u : P} {p : List Wd -> Prop} {e : Ex} {w : List Wd}
theorem up_or (hp : ∀ ws, p ws -> Fol F8 ws) (h : Rd W p (orF W last b u) e w) : Rd W p (exprF W last b u) e w := h.right _ _ _ fun ws q => (hp ws q).sub (by decide)
theorem up_and (hp : ∀ ws, p ws -> Fol F8 ws) (h : Rd W p (andF W last b u) e w) : Rd W p (exprF W last b u) e w := up_or hp (h.row _ fun ws q => (hp ws q).sub (by decide))
theorem zft (hp : ∀ ws, p ws -> Fol F8 ws) (h : Rd W p (cmpF W last b u) e w) : Rd W p (exprF W last b u) e w := up_and hp (h.row _ fun ws q => (hp ws q).sub (by decide))
theorem up_add (hp : ∀ ws, p ws -> Fol F8 ws) (h : Rd W p (addF W last b u) e w) : Rd W p (exprF W last b u) e w := zft hp (h.cmp fun ws q => (hp ws q).sub (by decide))
theorem up_mul (hp : ∀ ws, p ws -> Fol F8 ws) (h : Rd W p (mulF W last b u) e w) : Rd W p (exprF W last b u) e w := up_add hp (h.row _ fun ws q => (hp ws q).sub (by decide))
theorem up_fby (hp : ∀ ws, p ws -> Fol F8 ws) (h : Rd W p (fbyF W last b u) e w) : Rd W p (exprF W last b u) e w := up_mul hp (h.row _ fun ws q => (hp ws q).sub (by decide))
theorem up_whn (hp : ∀ ws, p ws -> Fol F8 ws) (h : Rd W p (whnF W u) e w) : Rd W p (exprF W last b u) e w := up_fby hp (h.right _ _ _ fun ws q => (hp ws q).sub (by decide))
theorem up_un (hp : ∀ ws, p ws -> Fol F8 ws) (h : Rd W p u e w) : Rd W p (exprF W last b u) e w := up_whn hp (h.when_ fun ws q => (hp ws q).sub (by decide))
theorem at_whn (h : Rd W (Fol F0) u e w) : Rd W (Fol F1) (whnF W u) e w := (h.mono fun ws q => q.sub (by decide)).when_ fun ws q => q.sub (by decide)
theorem zeZ (h : Rd W (Fol F0) u e w) : Rd W (Fol F2) (fbyF W last b u) e w := ((at_whn h).mono fun ws q => q.sub (by decide)).right _ _ _ fun ws q => q.sub (by decide)
theorem ziE (h : Rd W (Fol F0) u e w) : Rd W (Fol F3) (mulF W last b u) e w := ((zeZ h).mono fun ws q => q.sub (by decide)).row _ fun ws q => q.sub (by decide)
theorem zc9 (h : Rd W (Fol F0) u e w) : Rd W (Fol F4) (addF W last b u) e w := ((ziE h).mono fun ws q => q.sub (by decide)).row _ fun ws q => q.sub (by decide)
theorem at_cmp (h : Rd W (Fol F0) u e w) : Rd W (Fol F5) (cmpF W last b u) e w := ((zc9 h).mono fun ws q => q.sub (by decide)).cmp fun ws q => q.sub (by decide)
theorem ziF (h : Rd W (Fol F0) u e w) : Rd W (Fol F6) (andF W last b u) e w := ((at_cmp h).mono fun ws q => q.sub (by decide)).row _ fun ws q => q.sub (by decide)
theorem at_or (h : Rd W (Fol F0) u e w) : Rd W (Fol F7) (orF W last b u) e w := ((ziF h).mono fun ws q => q.sub (by decide)).row _ fun ws q => q.sub (by decide)
theorem at_expr (h : Rd W (Fol F0) u e w) : Rd W (Fol F8) (exprF W last b u) e w := ((at_or h).mono fun ws q => q.sub (by decide)).right _ _ _ fun ws q => q.sub (by decide)
theorem whn_stk (h : Stk u) : Stk (whnF W u) := zgY h
theorem zhz (h : Stk u) : Stk (fbyF W last b u) := zf1 (whn_stk h) _ _ _
theorem zjs (h : Stk u) : Stk (mulF W last b u) := zf0 (zhz h) _
theorem zdX (h : Stk u) : Stk (addF W last b u) := zf0 (zjs h) _
theorem cmpF_stk (h : Stk u) : Stk (cmpF W last b u) := zjC (zdX h)
theorem and_stk (h : Stk u) : Stk (andF W last b u) := zf0 (cmpF_stk h) _
end levels
theorem er_two (op : Bs) (n : Nat) {a b a' b' : Ex} (p q : Nat) (ha : a'.er = a.er) (hb : b'.er = b.er) : (Ex.mk op [] n p [a', b']).er = (Ex.mk op [] n q [a, b]).er := by
 simp only [Ex.er, Ex.ers, ha, hb]
theorem zdh {F ts : List Bs} {f : P} {a b : Ex} {u v : List Wd} {o : Wd} {pos : Nat} (hs : Stk f) (ha : Rd W (Fol F) f a u) (hb : Rd W (Fol F) f b v) (ho : ts.any (isW o) = true) (hF : ∀ t ∈ F, isW o t = false) (hR : ∀ t ∈ F, isW rp t = false) (hT : ∀ t ∈ ts, isW rp t = false) :
  Rd W Rp (Syn.row W f ts) (.mk o.text [] 0 pos [a, b]) (u ++ (o :: v)) := by
 rintro s _ hat ⟨ws, rfl⟩
 rw [List.append_assoc, List.cons_append] at hat
 unfold Syn.row
 rcases ha s (o :: (v ++ (rp :: ws))) hat ⟨o, _, rfl, hF⟩ with h1 | ⟨h1, h2, h3⟩
 · exact .inl (by simp only [zbV (W := W) f ts (s := (f s).2) (by omega)]; exact h1)
 · simp only
   rw [rowL, h1.one, ho, if_pos rfl]
   have hw : (at_ W (f s).2).2 = o := (zco h1.2).1
   rcases zbw h1 with h4 | ⟨h4, h5⟩
   · have h6 := hs.two h4
     simp only [zbV (W := W) f ts (s := (f (part W (f s).2)).2) (by omega)]
     exact .inl h6
   · rcases hb _ _ h4 ⟨rp, _, rfl, hR⟩ with h6 | ⟨h6, h7, h8⟩
     · simp only [zbV (W := W) f ts (s := (f (part W (f s).2)).2) (by omega)]
       exact .inl h6
     · simp only [zhV (next := f) (ts := ts) h6 hT]
       refine .inr ⟨h6, h7.trans (h5.trans h2), ?_⟩
       rw [hw]
       exact er_two _ _ _ _ h3 h8
theorem zeC {F : List Bs} {f : P} {a b : Ex} {u v : List Wd} {o : Wd} {pos : Nat} (hs : Stk f) (ha : Rd W (Fol F) f a u) (hb : Rd W (Fol F) f b v) (ho : cmpT.any (isW o) = true) (hF : ∀ t ∈ F, isW o t = false) (hR : ∀ t ∈ F, isW rp t = false) :
  Rd W Rp (Syn.cmp W f) (.mk o.text [] 0 pos [a, b]) (u ++ (o :: v)) := by
 rintro s _ hat ⟨ws, rfl⟩
 rw [List.append_assoc, List.cons_append] at hat
 unfold Syn.cmp
 rcases ha s (o :: (v ++ (rp :: ws))) hat ⟨o, _, rfl, hF⟩ with h1 | ⟨h1, h2, h3⟩
 · exact .inl (by simp only [zf4 (W := W) (s := (f s).2) (by omega)]; exact h1)
 · simp only
   rw [h1.one, show ([[61], [60, 62], [60], [60, 61], [62], [62, 61]] : List Bs).any (isW o) = true from ho, if_pos rfl]
   have hw : (at_ W (f s).2).2 = o := (zco h1.2).1
   rcases zbw h1 with h4 | ⟨h4, h5⟩
   · exact .inl (hs.two h4)
   · rcases hb _ _ h4 ⟨rp, _, rfl, hR⟩ with h6 | ⟨h6, h7, h8⟩
     · exact .inl h6
     · refine .inr ⟨h6, h7.trans (h5.trans h2), ?_⟩
       show (Ex.mk (at_ W (f s).2).2.text [] 0 _ [_, _]).er = _
       rw [hw]
       exact er_two _ _ _ _ h3 h8
theorem zhX {F G : List Bs} {f below : P} {a b : Ex} {u v : List Wd} {o : Wd} {pos : Nat} {last : Bool} (ha : Rd W (Fol F) f a u) (hb : last = false -> Rd W (Fol G) below b v) (ho : isW o o.text = true) (hF : ∀ t ∈ F, isW o t = false) (hR : ∀ t ∈ G, isW rp t = false) :
  Rd W Rp (Syn.right W f o.text last below) (.mk o.text [] 0 pos [a, b]) (u ++ (o :: v)) := by
 rintro s _ hat ⟨ws, rfl⟩
 rw [List.append_assoc, List.cons_append] at hat
 unfold Syn.right
 rcases ha s (o :: (v ++ (rp :: ws))) hat ⟨o, _, rfl, hF⟩ with h1 | ⟨h1, h2, h3⟩
 · exact .inl (by simp only [zbp (W := W) (s := (f s).2) (by omega)]; exact h1)
 · simp only
   rw [h1.is, ho, if_pos rfl]
   rcases zbw h1 with h4 | ⟨h4, h5⟩
   · rw [zd6 (by omega)]
     exact .inl h4
   · cases last
     · have hd : deeper W false (part W (f s).2) = (true, part W (f s).2) := by
        unfold deeper
        simp [h4.1]
       rw [hd]
       simp only [if_true]
       rcases hb rfl _ _ h4 ⟨rp, _, rfl, hR⟩ with h6 | ⟨h6, h7, h8⟩
       · exact .inl h6
       · exact .inr ⟨h6, h7.trans (h5.trans h2), er_two _ _ _ _ h3 h8⟩
     · have hd : deeper W true (part W (f s).2) = (false, fail W 2 (part W (f s).2)) := by
        unfold deeper
        simp [fail_err h4.1]
       rw [hd]
       exact .inl (fail_err h4.1 2)
theorem ze5 {inn mer : P} {e : Ex} {cw : List Wd} (h : Rd W Rp inn e cw) {s : St} {ws : List Wd} (ha : At W s (lp :: (cw ++ (rp :: ws)))) : Out W (prim W inn mer s) e ws s.names := by
 unfold prim
 simp only [ha.is, show isW lp [40] = true from rfl, if_true]
 rw [if_neg fun h => h ha.1]
 exact Out.want (h { s with i := s.i + 1 } _ (ha.next rfl ha.1) ⟨ws, rfl⟩) rfl
theorem zbE {inn mer : P} {s : St} {x : Wd} {xs : List Wd} (ha : At W s (x :: xs)) (h0 : isW x [40] = false) (h : x.kind = 3 \/ x.kind = 1 \/ x ∈ [kw sTrue, kw sFalse, kw sIf, kw sMerge]) :
  ∃ pos, prim W inn mer s = rest W inn mer (pos, x) (part W s) := by
 refine ⟨(at_ W s).1, ?_⟩
 unfold prim
 have hx : at_ W s = ((at_ W s).1, x) := Prod.ext rfl (zco ha.2).1
 have h1 : x.kind = 3 \/ x.kind = 1 \/ Syn.one W s [[116, 114, 117, 101], [102, 97, 108, 115, 101], [105, 102], [109, 101, 114, 103, 101]] = true := by
  rcases h with h | h | h
  · exact .inl h
  · exact .inr (.inl h)
  · right; right
    rw [ha.one]
    simp only [List.mem_cons, List.not_mem_nil, or_false] at h
    rcases h with rfl | rfl | rfl | rfl <;> rfl
 rw [hx]
 simp only [ha.is, h0, Bool.false_eq_true, if_false]
 rw [if_neg fun h => h ha.1, if_pos h1]
variable {W : Ws} {inn mer : P}
theorem zgK : ∀ a b : List Ex, Ex.ers (a ++ b) = Ex.ers a ++ Ex.ers b
 | [], b => rfl
 | e :: a, b => by simp only [List.cons_append, Ex.ers, zgK a b]
theorem trs_len : ∀ {l : List Ex} {ws : List Wd} {t : Bs}, Trs l ws t -> l.length <= ws.length
 | _, _, _, .nil => Nat.le_refl _
 | _, _, _, .cons he hl => by
   have := trs_len hl
   simp only [List.length_cons, List.length_append]
   omega
structure Inn (W : Ws) (inn mer : P) : Prop where
 expr : ∀ e w t, Tr e w t -> Rd W (Fol F8) inn e w
 cont : ∀ e w, Cont e w -> Rd W Rp inn e w
 part : ∀ e w t, Trp e w t -> ∀ s ws, At W s (w ++ ws) -> Out W (mer s) e ws s.names
 stk : Stk inn
 stkm : Stk mer
theorem trs_fol {l : List Ex} {ws' : List Wd} {t : Bs} (h : Trs l ws' t) (ws : List Wd) : Fol F8 (ws' ++ (rp :: ws)) := by
 cases h with
 | nil => exact ⟨rp, ws, rfl, by decide⟩
 | cons he hl => exact ⟨cm, _, rfl, by decide⟩
theorem argsL_ok (hI : Inn W inn mer) : ∀ {l : List Ex} {ws' : List Wd} {t : Bs}, Trs l ws' t -> ∀ (k : Nat) (acc : List Ex) (s : St) (ws : List Wd), l.length <= k -> At W s (ws' ++ (rp :: ws)) ->
  (argsL W inn k acc s).2.err = 2 \/ (At W (argsL W inn k acc s).2 (rp :: ws) /\ (argsL W inn k acc s).2.names = s.names /\ Ex.ers (argsL W inn k acc s).1 = Ex.ers acc ++ Ex.ers l)
 | _, _, _, .nil, k, acc, s, ws, _, ha => by
   have : argsL W inn k acc s = (acc, s) := by
    cases k with
    | zero => rfl
    | succ k => rw [argsL, At.is (w := rp) (ws := ws) ha]; rfl
   rw [this]
   exact .inr ⟨ha, rfl, by simp [Ex.ers]⟩
 | _, _, _, .cons (e := e) (l := l) (w := w) (ws := ws') he hl, 0, acc, s, ws, hk, ha => by simp at hk
 | _, _, _, .cons (e := e) (l := l) (w := w) (ws := ws') he hl, k + 1, acc, s, ws, hk, ha => by
   have ha : At W s (cm :: (w ++ (ws' ++ (rp :: ws)))) := by simpa using ha
   rw [argsL, ha.is, show isW cm [44] = true from rfl, if_pos rfl]
   simp only
   rcases hI.expr _ _ _ he { s with i := s.i + 1 } _ (ha.next rfl ha.1) (trs_fol hl ws) with h1 | ⟨h1, h2, h3⟩
   · rw [zcA inn (by omega)]
     exact .inl h1
   · have hk' : l.length <= k := by simp only [List.length_cons] at hk; omega
     rcases argsL_ok hI hl k (acc ++ [(inn { s with i := s.i + 1 }).1]) _ ws hk' h1 with h4 | ⟨h4, h5, h6⟩
     · exact .inl h4
     · refine .inr ⟨h4, h5.trans h2, h6.trans ?_⟩
       simp only [zgK, Ex.ers, h3, List.append_assoc, List.cons_append, List.nil_append]
theorem zhC {s : St} {ws : List Wd} (ha : At W s (rp :: ws)) : arguments W inn s = ([], { s with i := s.i + 1 }) := by
 unfold arguments
 rw [ha.is]
 rfl
theorem ziL (hI : Inn W inn mer) {e : Ex} {l : List Ex} {w ws' : List Wd} {t ts : Bs} (he : Tr e w t) (hl : Trs l ws' ts) {s : St} {ws : List Wd} (ha : At W s (w ++ (ws' ++ (rp :: ws)))) :
  (arguments W inn s).2.err = 2 \/ (At W (arguments W inn s).2 ws /\ (arguments W inn s).2.names = s.names /\ Ex.ers (arguments W inn s).1 = Ex.ers (e :: l)) := by
 obtain ⟨x, xs, rfl, _, _, _, hx⟩ := tr_head he
 unfold arguments
 rw [At.is (w := x) (ws := xs ++ (ws' ++ (rp :: ws))) ha, show isW x [41] = false from hx]
 simp only [Bool.false_eq_true, if_false]
 rcases hI.expr _ _ _ he s _ ha (trs_fol hl ws) with h1 | ⟨h1, h2, h3⟩
 · rw [zcA inn (by omega)]
   exact .inl (by rw [zaA (by rw [h1]; decide)]; exact h1)
 · have hlen := h1.len
   have := trs_len hl
   simp only [List.length_append, List.length_cons] at hlen
   rcases argsL_ok hI hl (W.length + 1) [(inn s).1] _ ws (by omega) h1 with h4 | ⟨h4, h5, h6⟩
   · exact .inl (by rw [zaA (by rw [h4]; decide)]; exact h4)
   · obtain ⟨h7, h8⟩ := zaG h4 (show isW rp [41] = true from rfl)
     refine .inr ⟨h7, h8.trans (h5.trans h2), h6.trans ?_⟩
     simp [Ex.ers, h3]
theorem rest_int {n pos : Nat} {s : St} : rest W inn mer (pos, ⟨3, dec n, n⟩) s = (.mk sInt [] n pos [], s) := by
 unfold rest; simp [sInt]
theorem rest_tt {pos : Nat} {s : St} : rest W inn mer (pos, kw sTrue) s = (.mk sBool [] 1 pos [], s) := by
 unfold rest; simp [sBool, sTrue, kw]
theorem rest_ff {pos : Nat} {s : St} : rest W inn mer (pos, kw sFalse) s = (.mk sBool [] 0 pos [], s) := by
 unfold rest; simp [sBool, sFalse, kw]
theorem zjk {nm : Bs} (h : Wok (nmW nm)) {pos : Nat} {s : St} : rest W inn mer (pos, nmW nm) s = if is W s [40] then (.mk sCall nm 0 pos (arguments W inn { s with i := s.i + 1 }).1, (arguments W inn { s with i := s.i + 1 }).2) else (.mk sVar nm 0 pos [], s) := by
 unfold rest; simp [sCall, sVar, nmW, nm_ne h (k := [116, 114, 117, 101]) (by decide), nm_ne h (k := [102, 97, 108, 115, 101]) (by decide)]
theorem rest_if {pos : Nat} {s : St} : rest W inn mer (pos, kw sIf) s = (.mk sIf [] 0 pos [(inn s).1, (inn (want1 W (inn s).2 sThen)).1, (inn (want1 W (inn (want1 W (inn s).2 sThen)).2 sElse)).1], (inn (want1 W (inn (want1 W (inn s).2 sThen)).2 sElse)).2) := by
 unfold rest; simp [sIf, sThen, sElse, kw]
theorem rest_merge {pos : Nat} {s : St} : rest W inn mer (pos, kw sMerge) s = (.mk sMerge (name W s).1 0 pos [(mer (name W s).2).1, (mer (mer (name W s).2).2).1], (mer (mer (name W s).2).2).2) := by
 unfold rest; simp [sMerge, kw]
theorem prim_ite (hI : Inn W inn mer) {pos : Nat} {a b c : Ex} {u v w : List Wd} {ta tb tc : Bs} (ha : Tr a u ta) (hb : Tr b v tb) (hc : Tr c w tc) :
  Rd W (Fol F8) (prim W inn mer) (.mk sIf [] 0 pos [a, b, c]) (kw sIf :: (u ++ (kw sThen :: (v ++ (kw sElse :: w))))) := by
 intro s ws hat hf
 have hat : At W s (kw sIf :: (u ++ (kw sThen :: (v ++ (kw sElse :: (w ++ ws)))))) := by simpa using hat
 obtain ⟨pos', hr⟩ := zbE (inn := inn) (mer := mer) hat rfl (.inr (.inr (by decide)))
 rw [hr, rest_if]
 have bad3 : ∀ s' : St, s'.err = 2 -> (inn (want1 W s' sElse)).2.err = 2 := fun s' h => by rw [zaA (by omega)]; exact hI.stk.two h
 have bad2 : ∀ s' : St, s'.err = 2 -> (inn (want1 W (inn (want1 W s' sThen)).2 sElse)).2.err = 2 := fun s' h => bad3 _ (by rw [zaA (by omega)]; exact hI.stk.two h)
 rcases zbw hat with h1 | ⟨h1, n1⟩
 · exact .inl (bad2 _ (hI.stk.two h1))
 rcases hI.expr _ _ _ ha _ _ h1 ⟨kw sThen, _, rfl, by decide⟩ with h2 | ⟨h2, n2, e2⟩
 · exact .inl (bad2 _ h2)
 obtain ⟨h3, n3⟩ := zaG h2 (show isW (kw sThen) sThen = true from rfl)
 rcases hI.expr _ _ _ hb _ _ h3 ⟨kw sElse, _, rfl, by decide⟩ with h4 | ⟨h4, n4, e4⟩
 · exact .inl (bad3 _ h4)
 obtain ⟨h5, n5⟩ := zaG h4 (show isW (kw sElse) sElse = true from rfl)
 rcases hI.expr _ _ _ hc _ _ h5 hf with h6 | ⟨h6, n6, e6⟩
 · exact .inl h6
 · exact .inr ⟨h6, n6.trans (n5.trans (n4.trans (n3.trans (n2.trans n1)))), by simp only [Ex.er, Ex.ers, e2, e4, e6]⟩
theorem prim_merge (hI : Inn W inn mer) {pos : Nat} {nm : Bs} {a b : Ex} {u v : List Wd} {ta tb : Bs} (ha : Trp a u ta) (hb : Trp b v tb) :
  Rd W (fun _ => True) (prim W inn mer) (.mk sMerge nm 0 pos [a, b]) (kw sMerge :: nmW nm :: (u ++ v)) := by
 intro s ws hat _
 have hat : At W s (kw sMerge :: nmW nm :: (u ++ (v ++ ws))) := by simpa using hat
 obtain ⟨pos', hr⟩ := zbE (inn := inn) (mer := mer) hat rfl (.inr (.inr (by decide)))
 rw [hr, rest_merge]
 rcases zbw hat with h1 | ⟨h1, n1⟩
 · rw [zcM (by omega)]
   exact .inl (hI.stkm.two (hI.stkm.two h1))
 have hn := zdj h1
 have h2 : At W (name W (part W s)).2 (u ++ (v ++ ws)) := by rw [hn]; exact h1.next rfl h1.1
 have n2 : (name W (part W s)).2.names = s.names := by rw [hn]; exact n1
 have e2 : (name W (part W s)).1 = nm := by rw [hn]
 rcases hI.part _ _ _ ha _ _ h2 with h3 | ⟨h3, n3, e3⟩
 · exact .inl (hI.stkm.two h3)
 rcases hI.part _ _ _ hb _ _ h3 with h4 | ⟨h4, n4, e4⟩
 · exact .inl h4
 · exact .inr ⟨h4, n4.trans (n3.trans n2), by simp only [Ex.er, Ex.ers, e2, e3, e4]⟩
def isVar (e : Ex) : Prop := ∃ nm n pos ks, e = .mk sVar nm n pos ks
theorem prim_tr (hI : Inn W inn mer) {e : Ex} {w : List Wd} {t : Bs} (h : Tr e w t) : Rd W (fun ws => isVar e -> Fol F0 ws) (prim W inn mer) e w := by
 intro s ws hat hf
 have par : ∀ cw, Cont e cw -> w = lp :: (cw ++ [rp]) -> Out W (prim W inn mer s) e ws s.names := fun cw hc hw => ze5 (hI.cont _ _ hc) (by rw [hw] at hat; simpa using hat)
 cases h with
 | @int n pos hn =>
   obtain ⟨pos', hr⟩ := zbE (inn := inn) (mer := mer) (x := ⟨3, dec n, n⟩) hat rfl (.inl rfl)
   rw [hr, rest_int]
   rcases zbw (w := ⟨3, dec n, n⟩) hat with h1 | ⟨h1, n1⟩
   · exact .inl h1
   · exact .inr ⟨h1, n1, by simp only [Ex.er]⟩
 | @tt pos =>
   obtain ⟨pos', hr⟩ := zbE (inn := inn) (mer := mer) (x := kw sTrue) hat rfl (.inr (.inr (by decide)))
   rw [hr, rest_tt]
   rcases zbw (w := kw sTrue) hat with h1 | ⟨h1, n1⟩
   · exact .inl h1
   · exact .inr ⟨h1, n1, by simp only [Ex.er]⟩
 | @ff pos =>
   obtain ⟨pos', hr⟩ := zbE (inn := inn) (mer := mer) (x := kw sFalse) hat rfl (.inr (.inr (by decide)))
   rw [hr, rest_ff]
   rcases zbw (w := kw sFalse) hat with h1 | ⟨h1, n1⟩
   · exact .inl h1
   · exact .inr ⟨h1, n1, by simp only [Ex.er]⟩
 | @var _ pos hn =>
   obtain ⟨pos', hr⟩ := zbE (inn := inn) (mer := mer) (x := nmW t) hat rfl (.inr (.inl rfl))
   rw [hr, zjk hn]
   rcases zbw (w := nmW t) hat with h1 | ⟨h1, n1⟩
   · rw [zbp (by omega)]
     exact .inl h1
   · obtain ⟨x, ws', rfl, hx⟩ := hf ⟨_, _, _, _, rfl⟩
     rw [At.is (w := x) (ws := ws') h1, hx [40] (by decide)]
     exact .inr ⟨h1, n1, by simp [Ex.er]⟩
 | @call0 nm pos hn =>
   obtain ⟨pos', hr⟩ := zbE (inn := inn) (mer := mer) (x := nmW nm) hat rfl (.inr (.inl rfl))
   rw [hr, zjk hn]
   rcases zbw (w := nmW nm) hat with h1 | ⟨h1, n1⟩
   · rw [zbp (by omega)]
     exact .inl h1
   · have h1 : At W (part W s) (lp :: rp :: ws) := h1
     rw [h1.is, show isW lp [40] = true from rfl, if_pos rfl, zhC (h1.next (s' := { part W s with i := (part W s).i + 1 }) rfl h1.1)]
     exact .inr ⟨(h1.next (s' := { part W s with i := (part W s).i + 1 }) rfl h1.1).next rfl h1.1, n1, by simp only [Ex.er]⟩
 | @call nm pos e l w ws' t ts hn he hl =>
   have hat : At W s (nmW nm :: lp :: (w ++ (ws' ++ (rp :: ws)))) := by simpa using hat
   obtain ⟨pos', hr⟩ := zbE (inn := inn) (mer := mer) (x := nmW nm) hat rfl (.inr (.inl rfl))
   rw [hr, zjk hn]
   rcases zbw hat with h1 | ⟨h1, n1⟩
   · rw [zbp (by omega)]
     exact .inl h1
   · rw [h1.is, show isW lp [40] = true from rfl, if_pos rfl]
     rcases ziL hI he hl (h1.next (s' := { part W s with i := (part W s).i + 1 }) rfl h1.1) with h2 | ⟨h2, n2, e2⟩
     · exact .inl h2
     · exact .inr ⟨h2, n2.trans n1, by simp only [Ex.er, e2]⟩
 | un ho hk => exact par _ (.un ho hk) (by simp)
 | whn h hk => exact par _ (.whn h hk) (by simp)
 | whnot h hk => exact par _ (.whnot h hk) (by simp)
 | ite ha hb hc => exact par _ (.ite ha hb hc) (by simp)
 | merge h ha hb => exact par _ (.merge h ha hb) (by simp)
 | bin ho ha hb => exact par _ (.bin ho ha hb) (by simp)
theorem prim_part (hI : Inn W inn mer) {e : Ex} {w : List Wd} {t : Bs} (h : Trp e w t) (s : St) (ws : List Wd) (hat : At W s (w ++ ws)) : Out W (prim W inn mer s) e ws s.names := by
 cases h with
 | @var nm pos hn => exact ze5 (cw := [nmW nm]) (hI.cont _ _ (.tr (.var hn))) (by simpa using hat)
 | of hn h => exact prim_tr hI h s ws hat fun ⟨_, _, _, _, e⟩ => absurd (Ex.mk.inj e).1 hn
theorem un_cont {pr below : P} {last : Bool} {op : Bs} {o : Wd} {pos : Nat} {k : Ex} {w : List Wd} {p : List Wd -> Prop} (ho : (op, o) ∈ unsW) (hb : last = false -> Rd W p below k w) : Rd W p (un W pr last below) (.mk op [] 0 pos [k]) (o :: w) := by
 intro s ws hat hf
 have hat : At W s (o :: (w ++ ws)) := hat
 have h1 : ([[110, 111, 116], [45], [112, 114, 101]] : List Bs).any (isW o) = true := (by decide +kernel : ∀ p ∈ unsW, ([[110, 111, 116], [45], [112, 114, 101]] : List Bs).any (isW p.2) = true) _ ho
 have h2 : (if o.text = [45] then [110, 101, 103] else o.text) = op := (by decide +kernel : ∀ p ∈ unsW, (if p.2.text = [45] then [110, 101, 103] else p.2.text) = p.1) _ ho
 unfold un
 rw [hat.one, h1, if_pos rfl]
 simp only [(zco hat.2).1, h2]
 rcases zbw hat with h3 | ⟨h3, n3⟩
 · rw [zd6 (by omega)]
   exact .inl h3
 · cases last
   · have hd : deeper W false (part W s) = (true, part W s) := by
      unfold deeper
      simp [h3.1]
     rw [hd]
     simp only [if_true]
     rcases hb rfl _ _ h3 hf with h4 | ⟨h4, n4, e4⟩
     · exact .inl h4
     · exact .inr ⟨h4, n4.trans n3, by simp only [Ex.er, Ex.ers, e4]⟩
   · have hd : deeper W true (part W s) = (false, fail W 2 (part W s)) := by
      unfold deeper
      simp [fail_err h3.1]
     rw [hd]
     exact .inl (fail_err h3.1 2)
theorem when_cont {f : P} {pos : Nat} {nm : Bs} {k : Ex} {w : List Wd} {p : List Wd -> Prop} (hk : Rd W (Fol F0) f k w) (hp : ∀ ws, p ws -> Fol [sWhen] ws) : Rd W p (when_ W f) (.mk sWhen nm 1 pos [k]) (w ++ [kw sWhen, nmW nm]) := by
 intro s ws hat hf
 have hat : At W s (w ++ (kw sWhen :: nmW nm :: ws)) := by simpa using hat
 unfold when_
 rcases hk s _ hat ⟨kw sWhen, _, rfl, by decide⟩ with h1 | ⟨h1, n1, e1⟩
 · exact .inl (by simp only [zbg (W := W) (s := (f s).2) (by omega)]; exact h1)
 · simp only
   rw [whenL, h1.is, show isW (kw sWhen) [119, 104, 101, 110] = true from rfl, if_pos rfl]
   rcases zbw h1 with h2 | ⟨h2, n2⟩
   · simp only [zed (W := W) (s := part W (f s).2) (by omega), zcM (W := W) (s := part W (f s).2) (by omega), zbg (W := W) (s := part W (f s).2) (by omega)]
     exact .inl h2
   · simp only [zfh h2 (show isW (nmW nm) [110, 111, 116] = false from rfl), zdj h2]
     have h3 : At W { part W (f s).2 with i := (part W (f s).2).i + 1 } ws := h2.next rfl h2.1
     obtain ⟨x, ws', rfl, hx⟩ := hp ws hf
     simp only [ze3 h3 (hx sWhen (by simp))]
     exact .inr ⟨h3, n2.trans n1, by simp [Ex.er, Ex.ers, e1, sWhen]⟩
theorem when_cont' {f : P} {pos : Nat} {nm : Bs} {k : Ex} {w : List Wd} {p : List Wd -> Prop} (hk : Rd W (Fol F0) f k w) (hp : ∀ ws, p ws -> Fol [sWhen] ws) : Rd W p (when_ W f) (.mk sWhen nm 0 pos [k]) (w ++ [kw sWhen, kw sNot, nmW nm]) := by
 intro s ws hat hf
 have hat : At W s (w ++ (kw sWhen :: kw sNot :: nmW nm :: ws)) := by simpa using hat
 unfold when_
 rcases hk s _ hat ⟨kw sWhen, _, rfl, by decide⟩ with h1 | ⟨h1, n1, e1⟩
 · exact .inl (by simp only [zbg (W := W) (s := (f s).2) (by omega)]; exact h1)
 · simp only
   rw [whenL, h1.is, show isW (kw sWhen) [119, 104, 101, 110] = true from rfl, if_pos rfl]
   rcases zbw h1 with h2 | ⟨h2, n2⟩
   · simp only [zed (W := W) (s := part W (f s).2) (by omega), zcM (W := W) (s := part W (f s).2) (by omega), zbg (W := W) (s := part W (f s).2) (by omega)]
     exact .inl h2
   · have h4 : At W { part W (f s).2 with i := (part W (f s).2).i + 1 } (nmW nm :: ws) := h2.next rfl h2.1
     simp only [zhc h2 (show isW (kw sNot) [110, 111, 116] = true from rfl), zdj h4]
     have h3 : At W { part W (f s).2 with i := (part W (f s).2).i + 1 + 1 } ws := h4.next rfl h2.1
     obtain ⟨x, ws', rfl, hx⟩ := hp ws hf
     simp only [ze3 h3 (hx sWhen (by simp))]
     exact .inr ⟨h3, n2.trans n1, by simp [Ex.er, Ex.ers, e1, sWhen]⟩
section depth
variable {last : Bool} {b : Lv} {u : P}
theorem bin_ok {o : Wd} {pos : Nat} {x y : Ex} {u' v' : List Wd} {ta tb : Bs} (hus : Stk u) (hun : ∀ e w t, Tr e w t -> Rd W (Fol F0) u e w) (hbe : last = false -> ∀ e w t, Tr e w t -> Rd W (Fol F8) b.expr e w) (hbf : last = false -> ∀ e w t, Tr e w t -> Rd W (Fol F2) b.fby e w)
  (ho : o ∈ opsW) (tx : Tr x u' ta) (ty : Tr y v' tb) : Rd W Rp (exprF W last b u) (.mk o.text [] 0 pos [x, y]) (u' ++ (o :: v')) := by
 have hrp : ∀ ws, Rp ws -> Fol F8 ws := fun ws q => q.fol (by decide)
 have hx := hun _ _ _ tx
 have hy := hun _ _ _ ty
 simp only [opsW, List.mem_cons, List.not_mem_nil, or_false] at ho
 rcases ho with rfl | rfl | rfl | rfl | rfl | rfl | rfl | rfl | rfl | rfl | rfl | rfl | rfl | rfl | rfl | rfl
 · exact zhX (o := sg [45, 62]) (at_or hx) (fun hl => hbe hl _ _ _ ty) rfl (by decide) (by decide)
 · exact up_or hrp (zdh (o := kw [111, 114]) (and_stk hus) (ziF hx) (ziF hy) rfl (by decide) (by decide) (by decide))
 · exact up_or hrp (zdh (o := kw [120, 111, 114]) (and_stk hus) (ziF hx) (ziF hy) rfl (by decide) (by decide) (by decide))
 · exact up_and hrp (zdh (o := kw [97, 110, 100]) (cmpF_stk hus) (at_cmp hx) (at_cmp hy) rfl (by decide) (by decide) (by decide))
 · exact zft hrp (zeC (o := sg [61]) (zdX hus) (zc9 hx) (zc9 hy) rfl (by decide) (by decide))
 · exact zft hrp (zeC (o := sg [60, 62]) (zdX hus) (zc9 hx) (zc9 hy) rfl (by decide) (by decide))
 · exact zft hrp (zeC (o := sg [60]) (zdX hus) (zc9 hx) (zc9 hy) rfl (by decide) (by decide))
 · exact zft hrp (zeC (o := sg [60, 61]) (zdX hus) (zc9 hx) (zc9 hy) rfl (by decide) (by decide))
 · exact zft hrp (zeC (o := sg [62]) (zdX hus) (zc9 hx) (zc9 hy) rfl (by decide) (by decide))
 · exact zft hrp (zeC (o := sg [62, 61]) (zdX hus) (zc9 hx) (zc9 hy) rfl (by decide) (by decide))
 · exact up_add hrp (zdh (o := sg [43]) (zjs hus) (ziE hx) (ziE hy) rfl (by decide) (by decide) (by decide))
 · exact up_add hrp (zdh (o := sg [45]) (zjs hus) (ziE hx) (ziE hy) rfl (by decide) (by decide) (by decide))
 · exact up_mul hrp (zdh (o := sg [42]) (zhz hus) (zeZ hx) (zeZ hy) rfl (by decide) (by decide) (by decide))
 · exact up_mul hrp (zdh (o := sg [47]) (zhz hus) (zeZ hx) (zeZ hy) rfl (by decide) (by decide) (by decide))
 · exact up_mul hrp (zdh (o := kw [109, 111, 100]) (zhz hus) (zeZ hx) (zeZ hy) rfl (by decide) (by decide) (by decide))
 · exact up_fby hrp (zhX (o := kw sFby) (at_whn hx) (fun hl => hbf hl _ _ _ ty) rfl (by decide) (by decide))
end depth
variable {W : Ws}
section
variable {last : Bool} {b : Lv}
def primF (W : Ws) (last : Bool) (b : Lv) : P := prim W (inner W last b.expr) (inner W last b.prim)
def unF (W : Ws) (last : Bool) (b : Lv) : P := un W (primF W last b) last b.un
theorem zit (hb : last = false -> LvOk W b) : Inn W (inner W last b.expr) (inner W last b.prim) := by
 refine ⟨fun e w t h => Rd.inner fun hl => (hb hl).expr e w t h, fun e w h => Rd.inner fun hl => (hb hl).cont e w h, fun e w t h s ws ha => ?_, zep _ _, zep _ _⟩
 cases last
 · rw [zis ha.1]; exact (hb rfl).part e w t h s ws ha
 · exact .inl (zgC ha.1)
theorem unF_stk : Stk (unF W last b) := un_stk (zhi _ _) _ _
theorem zfu (hb : last = false -> LvOk W b) (e : Ex) (w : List Wd) (t : Bs) (h : Tr e w t) : Rd W (Fol F0) (unF W last b) e w :=
 Rd.un ((prim_tr (zit hb) h).mono fun ws q _ => q) (tr_head h) last b.un
theorem hd_kw {x : Wd} (xs : List Wd) (h : x = kw sIf \/ x = kw sMerge) : Hd (x :: xs) := by
 rcases h with rfl | rfl <;> exact ⟨_, xs, rfl, by rfl, by rfl, by rfl, by rfl⟩
theorem cont_ok (hb : last = false -> LvOk W b) (e : Ex) (w : List Wd) (h : Cont e w) : Rd W Rp (exprF W last b (unF W last b)) e w := by
 have hrp : ∀ ws, Rp ws -> Fol F8 ws := fun ws q => q.fol (by decide)
 have h0 : ∀ ws, Rp ws -> Fol F0 ws := fun ws q => q.fol (by decide)
 cases h with
 | tr h => exact up_un hrp ((zfu hb _ _ _ h).mono h0)
 | un ho hk => exact up_un hrp (un_cont ho fun hl => ((hb hl).un _ _ _ hk).mono h0)
 | whn h hk => exact up_whn hrp (when_cont (zfu hb _ _ _ hk) fun ws q => q.fol (by decide))
 | whnot h hk => exact up_whn hrp (when_cont' (zfu hb _ _ _ hk) fun ws q => q.fol (by decide))
 | ite ha hb' hc => exact up_un hrp (Rd.un ((prim_ite (zit hb) ha hb' hc).mono hrp) (hd_kw _ (.inl rfl)) last b.un)
 | merge h ha hb' => exact up_un hrp (Rd.un ((prim_merge (zit hb) ha hb').mono fun _ _ => trivial) (hd_kw _ (.inr rfl)) last b.un)
 | bin ho hx hy => exact bin_ok unF_stk (zfu hb) (fun hl => (hb hl).expr) (fun hl => (hb hl).fby) ho hx hy
theorem zho : lvOf W last b = ⟨exprF W last b (unF W last b), fbyF W last b (unF W last b), unF W last b, primF W last b⟩ := by
 simp only [lvOf, exprF, orF, andF, cmpF, addF, mulF, fbyF, whnF, unF, primF, mulT, addT, andT, orT, sFby]
theorem lvOf_ok (hb : last = false -> LvOk W b) : LvOk W (lvOf W last b) := by
 have h1 : ∀ e w t, Tr e w t -> Rd W (Fol F2) (fbyF W last b (unF W last b)) e w := fun e w t h => zeZ (last := last) (b := b) (u := unF W last b) (zfu hb e w t h)
 have h2 : ∀ e w t, Tr e w t -> Rd W (Fol F8) (exprF W last b (unF W last b)) e w := fun e w t h => at_expr (last := last) (b := b) (u := unF W last b) (zfu hb e w t h)
 have h3 : ∀ e w t, Trp e w t -> ∀ s ws, At W s (w ++ ws) -> Out W (primF W last b s) e ws s.names := fun e w t h s ws ha => prim_part (zit hb) h s ws ha
 have h4 := zfu hb
 have h5 := cont_ok hb
 rw [zho]
 generalize exprF W last b (unF W last b) = f1 at *
 generalize fbyF W last b (unF W last b) = f2 at *
 generalize unF W last b = f3 at *
 generalize primF W last b = f4 at *
 exact ⟨h3, h4, h1, h2, h5⟩
end
theorem lv_ok : ∀ d, LvOk W (lv W d)
 | 0 => lvOf_ok (fun h => by cases h)
 | d + 1 => lvOf_ok fun _ => lv_ok d
variable {W : Ws}
def Va.er (v : Va) : Va := { v with pos := 0 }
def Eqn.er (q : Eqn) : Eqn := ⟨q.name, q.e.er, 0⟩
def Nd.er (n : Nd) : Nd := ⟨n.name, n.ins.map Va.er, n.outs.map Va.er, n.locals.map Va.er, n.eqs.map Eqn.er, 0⟩
def sNode : Bs := [110, 111, 100, 101]
def sReturns : Bs := [114, 101, 116, 117, 114, 110, 115]
def sLet : Bs := [108, 101, 116]
def sTel : Bs := [116, 101, 108]
def semi : Wd := ⟨4, [59], 0⟩
def colon : Wd := ⟨4, [58], 0⟩
def eqs_ : Wd := ⟨4, [61], 0⟩
inductive Vd : Va -> List Wd -> Prop
 | bool {nm : Bs} {pos : Nat} (h : Wok (nmW nm)) : Vd ⟨nm, 1, [], false, pos⟩ [nmW nm, colon, kw sBool]
 | int {nm : Bs} {pos : Nat} (h : Wok (nmW nm)) : Vd ⟨nm, 2, [], false, pos⟩ [nmW nm, colon, kw sInt]
inductive Vl : Va -> List Wd -> Prop
 | no {v : Va} {w : List Wd} (h : Vd v w) : Vl v w
 | on {nm on : Bs} {k pos : Nat} {w : List Wd} (h : Vd ⟨nm, k, [], false, pos⟩ w) (ho : Wok (nmW on)) : Vl ⟨nm, k, on, false, pos⟩ (w ++ [kw sWhen, nmW on])
 | off {nm on : Bs} {k pos : Nat} {w : List Wd} (h : Vd ⟨nm, k, [], false, pos⟩ w) (ho : Wok (nmW on)) : Vl ⟨nm, k, on, true, pos⟩ (w ++ [kw sWhen, kw sNot, nmW on])
inductive Vs (R : Va -> List Wd -> Prop) : List Va -> List Wd -> Prop
 | one {v : Va} {w : List Wd} (h : R v w) : Vs R [v] w
 | cons {v : Va} {l : List Va} {w ws : List Wd} (h : R v w) (hl : Vs R l ws) : Vs R (v :: l) (w ++ (semi :: ws))
inductive Vs0 : List Va -> List Wd -> Prop
 | nil : Vs0 [] []
 | of {l : List Va} {w : List Wd} (h : Vs Vd l w) : Vs0 l w
def OutV (W : Ws) (r : List Va × St) (l : List Va) (ws : List Wd) : Prop := r.2.err = 2 \/ (At W r.2 ws /\ r.1.map Va.er = l.map Va.er)
theorem zi4 {s : St} (h : s.err ≠ 0) : (declared W s).2.err = s.err := by
 unfold declared
 simp only
 have h1 : (if (at_ W s).2.kind = 1 then (if 64 < wrap (s.names + 1) then fail W 2 { s with names := wrap (s.names + 1) } else { s with names := wrap (s.names + 1) }) else s).err = s.err := by
  split
  · split
    · rw [zbX (W := W) (s := { s with names := wrap (s.names + 1) }) h]
    · rfl
  · rfl
 rw [zcM (by rw [h1]; exact h), h1]
theorem zc7 {s : St} (h : s.err ≠ 0) (l : List Va) : ∀ k, declL W k l s = (l, s)
 | 0 => rfl
 | k + 1 => by rw [declL, zbp h]; rfl
theorem decl_bad {s : St} (h : s.err ≠ 0) : (decl W s).2.err = s.err := by
 have h1 := zi4 (W := W) h
 unfold decl
 simp only [zc7 (W := W) (s := (declared W s).2) (by rw [h1]; exact h), zaA (W := W) (s := (declared W s).2) (by rw [h1]; exact h), zbp (W := W) (s := (declared W s).2) (by rw [h1]; exact h), Bool.false_eq_true, if_false, zbX (W := W) (s := (declared W s).2) (by rw [h1]; exact h)]
 exact h1
theorem zbd {s : St} (h : s.err ≠ 0) (l : List Va) : ∀ k, declsL W k l s = (l, s)
 | 0 => rfl
 | k + 1 => by rw [declsL, zbp h]; rfl
theorem zdo {s : St} (h : s.err ≠ 0) : (decls W s).2.err = s.err := by
 have h1 := decl_bad (W := W) h
 unfold decls
 split
 · rfl
 · simp only [zbd (W := W) (s := (decl W s).2) (by rw [h1]; exact h)]
   exact h1
theorem local_bad {s : St} (h : s.err ≠ 0) : (local_ W s).2.err = s.err := by
 have h1 := decl_bad (W := W) h
 unfold local_
 simp only [zbp (W := W) (s := (decl W s).2) (by rw [h1]; exact h), Bool.false_eq_true, if_false]
 exact h1
theorem zbk {s : St} (h : s.err ≠ 0) (l : List Va) : ∀ k, localsL W k l s = (l, s)
 | 0 => rfl
 | k + 1 => by rw [localsL, if_neg fun q => h q.1]
theorem zg4 {s : St} (h : s.err ≠ 0) : (locals_ W s).2.err = s.err := by
 unfold locals_
 have h1 : (if kind W s = 1 then local_ W s else ([], s)).2.err = s.err := by
  split
  · exact local_bad h
  · rfl
 simp only [zaA (W := W) (s := (if kind W s = 1 then local_ W s else ([], s)).2) (by rw [h1]; exact h), zbk (W := W) (s := (if kind W s = 1 then local_ W s else ([], s)).2) (by rw [h1]; exact h)]
 exact h1
theorem zd5 {s : St} (h : s.err ≠ 0) (l : List Eqn) : ∀ k, eqsL W k l s = (l, s)
 | 0 => rfl
 | k + 1 => by rw [eqsL, if_neg fun q => h q.1]
theorem zdZ {s : St} (h : s.err ≠ 0) : ∀ ts : List Bs, want W s ts = s
 | [] => rfl
 | t :: ts => by
   show want W (want1 W s t) ts = s
   rw [zaA h]
   exact zdZ h ts
theorem zj5 {s : St} {nm : Bs} {ws : List Wd} (h : At W s (nmW nm :: ws)) : (declared W s).2.err = 2 \/ (At W (declared W s).2 ws /\ (declared W s).1.er = ⟨nm, 0, [], false, 0⟩) := by
 unfold declared
 simp only [(zco h.2).1, show (nmW nm).kind = 1 from rfl, if_true]
 by_cases hn : 64 < wrap (s.names + 1)
 · rw [if_pos hn]
   have e : (fail W 2 { s with names := wrap (s.names + 1) }).err = 2 := fail_err (s := { s with names := wrap (s.names + 1) }) h.1 2
   rw [zcM (by rw [e]; decide)]
   exact .inl e
 · rw [if_neg hn]
   have h1 : At W { s with names := wrap (s.names + 1) } (nmW nm :: ws) := h.same rfl rfl
   rw [zdj h1]
   exact .inr ⟨h1.next rfl h.1, rfl⟩
theorem vd_at {v : Va} {w : List Wd} (h : Vd v w) {s : St} {ws : List Wd} (ha : At W s (w ++ ws)) : OutV W (decl W s) [v] ws := by
 obtain ⟨nm, k, pos, hw, hv, hk⟩ : ∃ nm k pos, w = [nmW nm, colon, kw (if k = 1 then sBool else sInt)] /\ v = ⟨nm, k, [], false, pos⟩ /\ (k = 1 \/ k = 2) := by
  cases h with
  | bool h => exact ⟨_, 1, _, rfl, rfl, .inl rfl⟩
  | int h => exact ⟨_, 2, _, rfl, rfl, .inr rfl⟩
 subst hw hv
 have ha : At W s (nmW nm :: colon :: kw (if k = 1 then sBool else sInt) :: ws) := ha
 unfold decl OutV
 rcases zj5 ha with h1 | ⟨h1, e1⟩
 · left
   have hb : (declared W s).2.err ≠ 0 := by rw [h1]; decide
   simp only [zc7 (W := W) (s := (declared W s).2) hb, zaA (W := W) (s := (declared W s).2) hb, zbp (W := W) (s := (declared W s).2) hb, Bool.false_eq_true, if_false, zbX (W := W) (s := (declared W s).2) hb]
   exact h1
 · have h2 : declL W (W.length + 1) [(declared W s).1] (declared W s).2 = ([(declared W s).1], (declared W s).2) := by
    rw [declL, h1.is]; rfl
   obtain ⟨h3, _⟩ := zaG h1 (show isW colon [58] = true from rfl)
   simp only [h2]
   have hn : (declared W s).1.name = nm /\ (declared W s).1.on = [] /\ (declared W s).1.neg = false := by
    have a := congrArg Va.name e1
    have b := congrArg Va.on e1
    have c := congrArg Va.neg e1
    exact ⟨a, b, c⟩
   rcases hk with rfl | rfl
   · have h3 : At W (want1 W (declared W s).2 [58]) (kw sBool :: ws) := h3
     simp only [h3.is, show isW (kw sBool) [98, 111, 111, 108] = true from rfl, if_true]
     exact .inr ⟨h3.next rfl h3.1, by simp [Va.er, hn.1, hn.2.1, hn.2.2]⟩
   · have h3 : At W (want1 W (declared W s).2 [58]) (kw sInt :: ws) := h3
     simp only [h3.is, show isW (kw sInt) [98, 111, 111, 108] = false from rfl, show isW (kw sInt) [105, 110, 116] = true from rfl, if_true, Bool.false_eq_true, if_false]
     exact .inr ⟨h3.next rfl h3.1, by simp [Va.er, hn.1, hn.2.1, hn.2.2]⟩
theorem vs_len {R : Va -> List Wd -> Prop} (hR : ∀ v w, R v w -> 0 < w.length) : ∀ {l : List Va} {w : List Wd}, Vs R l w -> l.length <= w.length
 | _, _, .one h => hR _ _ h
 | _, _, .cons h hl => by
   have := vs_len hR hl
   simp only [List.length_cons, List.length_append]
   omega
theorem vd_len {v : Va} {w : List Wd} (h : Vd v w) : 0 < w.length := by cases h <;> simp
theorem zi2 : ∀ {l : List Va} {w : List Wd}, Vs Vd l w -> ∀ (k : Nat) (acc : List Va) (s : St) (ws : List Wd), l.length <= k -> At W s (semi :: (w ++ (rp :: ws))) -> OutV W (declsL W k acc s) (acc ++ l) (rp :: ws)
 | _, _, .one (v := v) h, 0, acc, s, ws, hk, ha => by simp at hk
 | _, _, .cons h hl, 0, acc, s, ws, hk, ha => by simp at hk
 | _, _, .one (v := v) (w := w) h, k + 1, acc, s, ws, hk, ha => by
   rw [declsL, ha.is, show isW semi [59] = true from rfl, if_pos rfl]
   simp only
   have h0 : At W { s with i := s.i + 1 } (w ++ (rp :: ws)) := ha.next rfl ha.1
   rcases vd_at h h0 with h1 | ⟨h1, e1⟩
   · rw [zbd (by omega)]
     exact .inl h1
   · have : ∀ acc' : List Va, declsL W k acc' (decl W { s with i := s.i + 1 }).2 = (acc', (decl W { s with i := s.i + 1 }).2) := by
      intro acc'
      cases k with
      | zero => rfl
      | succ k => rw [declsL, h1.is]; rfl
     rw [this]
     exact .inr ⟨h1, by simp only [List.map_append, e1]⟩
 | _, _, .cons (v := v) (l := l) (w := w) (ws := w') h hl, k + 1, acc, s, ws, hk, ha => by
   rw [declsL, ha.is, show isW semi [59] = true from rfl, if_pos rfl]
   simp only
   have h0 : At W { s with i := s.i + 1 } (w ++ (semi :: (w' ++ (rp :: ws)))) := by
    have := ha.next (s' := { s with i := s.i + 1 }) rfl ha.1
    simpa using this
   rcases vd_at h h0 with h1 | ⟨h1, e1⟩
   · rw [zbd (by omega)]
     exact .inl h1
   · rcases zi2 hl k (acc ++ (decl W { s with i := s.i + 1 }).1) _ ws (by simp only [List.length_cons] at hk; omega) h1 with h2 | ⟨h2, e2⟩
     · exact .inl h2
     · refine .inr ⟨h2, e2.trans ?_⟩
       simp only [List.map_append, e1, List.map_cons, List.map_nil, List.append_assoc, List.cons_append, List.nil_append]
theorem zgZ {v : Va} {w : List Wd} (h : Vd v w) : ∃ nm xs, w = nmW nm :: xs := by cases h <;> exact ⟨_, _, rfl⟩
theorem decls_ok {l : List Va} {w : List Wd} (h : Vs0 l w) {s : St} {ws : List Wd} (ha : At W s (w ++ (rp :: ws))) : OutV W (decls W s) l (rp :: ws) := by
 unfold decls
 cases h with
 | nil =>
   have ha : At W s (rp :: ws) := ha
   rw [if_pos (by rw [ha.kind]; decide)]
   exact .inr ⟨ha, rfl⟩
 | of h =>
   have one : ∀ {v : Va} {w : List Wd}, Vd v w -> ∀ {x : Wd} {xs : List Wd}, At W s (w ++ (x :: xs)) -> kind W s = 1 := by
    intro v w hv x xs hx
    obtain ⟨nm, ys, rfl⟩ := zgZ hv
    exact At.kind (w := nmW nm) hx
   cases h with
   | @one v w h =>
     rw [if_neg (by rw [one h ha]; decide)]
     rcases vd_at h ha with h1 | ⟨h1, e1⟩
     · simp only [zbd (W := W) (s := (decl W s).2) (by omega)]
       exact .inl h1
     · have : ∀ acc' : List Va, declsL W (W.length + 1) acc' (decl W s).2 = (acc', (decl W s).2) := by
        intro acc'
        rw [declsL, h1.is]; rfl
       simp only [this]
       exact .inr ⟨h1, e1⟩
   | @cons v l w w' h hl =>
     have ha : At W s (w ++ (semi :: (w' ++ (rp :: ws)))) := by simpa using ha
     rw [if_neg (by rw [one h ha]; decide)]
     rcases vd_at h ha with h1 | ⟨h1, e1⟩
     · simp only [zbd (W := W) (s := (decl W s).2) (by omega)]
       exact .inl h1
     · have hlen := h1.len
       have := vs_len (fun v w h => vd_len h) hl
       simp only [List.length_cons, List.length_append] at hlen
       rcases zi2 hl (W.length + 1) (decl W s).1 _ ws (by omega) h1 with h2 | ⟨h2, e2⟩
       · exact .inl h2
       · refine .inr ⟨h2, e2.trans ?_⟩
         simp only [List.map_append, e1, List.map_cons, List.map_nil, List.cons_append, List.nil_append]
variable {W : Ws}
theorem ne2 {n : Nat} (h : n = 2) : n ≠ 0 := by rw [h]; decide
theorem vl_at {v : Va} {w : List Wd} (h : Vl v w) {s : St} {ws : List Wd} (ha : At W s (w ++ (semi :: ws))) : OutV W (local_ W s) [v] (semi :: ws) := by
 unfold local_ OutV
 cases h with
 | no h =>
   rcases vd_at h ha with h1 | ⟨h1, e1⟩
   · simp only [zbp (W := W) (s := (decl W s).2) (ne2 h1), Bool.false_eq_true, if_false]
     exact .inl h1
   · simp only [h1.is, show isW semi [119, 104, 101, 110] = false from rfl, Bool.false_eq_true, if_false]
     exact .inr ⟨h1, e1⟩
 | @on nm on k pos w h ho =>
   have ha : At W s (w ++ (kw sWhen :: nmW on :: semi :: ws)) := by simpa using ha
   rcases vd_at h ha with h1 | ⟨h1, e1⟩
   · simp only [zbp (W := W) (s := (decl W s).2) (ne2 h1), Bool.false_eq_true, if_false]
     exact .inl h1
   · have h2 : At W { (decl W s).2 with i := (decl W s).2.i + 1 } (nmW on :: semi :: ws) := h1.next rfl h1.1
     simp only [h1.is, show isW (kw sWhen) [119, 104, 101, 110] = true from rfl, if_true, zfh h2 (show isW (nmW on) [110, 111, 116] = false from rfl), zdj h2]
     refine .inr ⟨h2.next rfl h1.1, ?_⟩
     obtain ⟨x, hx⟩ : ∃ x, (decl W s).1 = [x] := by
      cases hd : (decl W s).1 with
      | nil => rw [hd] at e1; simp at e1
      | cons x l => cases l with
        | nil => exact ⟨x, rfl⟩
        | cons y l => rw [hd] at e1; simp at e1
     rw [hx] at e1 ⊢
     simp only [List.map_cons, List.map_nil, List.cons.injEq, and_true, Va.er, Va.mk.injEq] at e1 ⊢
     simp [e1]
 | @off nm on k pos w h ho =>
   have ha : At W s (w ++ (kw sWhen :: kw sNot :: nmW on :: semi :: ws)) := by simpa using ha
   rcases vd_at h ha with h1 | ⟨h1, e1⟩
   · simp only [zbp (W := W) (s := (decl W s).2) (ne2 h1), Bool.false_eq_true, if_false]
     exact .inl h1
   · have h2 : At W { (decl W s).2 with i := (decl W s).2.i + 1 } (kw sNot :: nmW on :: semi :: ws) := h1.next rfl h1.1
     have h3 : At W { (decl W s).2 with i := (decl W s).2.i + 1 + 1 } (nmW on :: semi :: ws) := h2.next rfl h1.1
     simp only [h1.is, show isW (kw sWhen) [119, 104, 101, 110] = true from rfl, if_true, zhc h2 (show isW (kw sNot) [110, 111, 116] = true from rfl), zdj h3]
     refine .inr ⟨h3.next rfl h1.1, ?_⟩
     obtain ⟨x, hx⟩ : ∃ x, (decl W s).1 = [x] := by
      cases hd : (decl W s).1 with
      | nil => rw [hd] at e1; simp at e1
      | cons x l => cases l with
        | nil => exact ⟨x, rfl⟩
        | cons y l => rw [hd] at e1; simp at e1
     rw [hx] at e1 ⊢
     simp only [List.map_cons, List.map_nil, List.cons.injEq, and_true, Va.er, Va.mk.injEq] at e1 ⊢
     simp [e1]
inductive Vse : List Va -> List Wd -> Prop
 | nil : Vse [] []
 | cons {v : Va} {l : List Va} {w ws : List Wd} (h : Vl v w) (hl : Vse l ws) : Vse (v :: l) (w ++ (semi :: ws))
theorem vse_len : ∀ {l : List Va} {w : List Wd}, Vse l w -> l.length <= w.length
 | _, _, .nil => Nat.le_refl _
 | _, _, .cons h hl => by
   have := vse_len hl
   simp only [List.length_cons, List.length_append]
   omega
theorem vl_head {v : Va} {w : List Wd} (h : Vl v w) : ∃ nm xs, w = nmW nm :: xs := by
 cases h with
 | no h => exact zgZ h
 | on h ho => obtain ⟨nm, xs, rfl⟩ := zgZ h; exact ⟨nm, _, rfl⟩
 | off h ho => obtain ⟨nm, xs, rfl⟩ := zgZ h; exact ⟨nm, _, rfl⟩
theorem zg9 {v : Va} {w : List Wd} (h : Vl v w) {s : St} {ws : List Wd} (ha : At W s (w ++ (semi :: ws))) : (want1 W (local_ W s).2 [59]).err = 2 \/ (At W (want1 W (local_ W s).2 [59]) ws /\ (local_ W s).1.map Va.er = [v.er]) := by
 rcases vl_at h ha with h1 | ⟨h1, e1⟩
 · exact .inl (by rw [zaA (ne2 h1)]; exact h1)
 · exact .inr ⟨(zaG h1 rfl).1, e1⟩
theorem zg7 : ∀ {l : List Va} {w : List Wd}, Vse l w -> ∀ (k : Nat) (acc : List Va) (s : St) (x : Wd) (ws : List Wd), x.kind ≠ 1 -> l.length <= k -> At W s (w ++ (x :: ws)) -> OutV W (localsL W k acc s) (acc ++ l) (x :: ws)
 | _, _, .nil, k, acc, s, x, ws, hx, hk, ha => by
   have ha : At W s (x :: ws) := ha
   have : localsL W k acc s = (acc, s) := by
    cases k with
    | zero => rfl
    | succ k => rw [localsL, if_neg]; rw [ha.kind]; exact fun q => hx q.2
   rw [this]
   exact .inr ⟨ha, by simp⟩
 | _, _, .cons h hl, 0, acc, s, x, ws, hx, hk, ha => by simp at hk
 | _, _, .cons (v := v) (l := l) (w := w) (ws := w') h hl, k + 1, acc, s, x, ws, hx, hk, ha => by
   have ha : At W s (w ++ (semi :: (w' ++ (x :: ws)))) := by simpa using ha
   have hkd : kind W s = 1 := by
    obtain ⟨nm, ys, rfl⟩ := vl_head h
    exact At.kind (w := nmW nm) ha
   rw [localsL, if_pos ⟨ha.1, hkd⟩]
   simp only
   rcases zg9 h ha with h1 | ⟨h1, e1⟩
   · rw [zbk (ne2 h1)]
     exact .inl h1
   · rcases zg7 hl k (acc ++ (local_ W s).1) _ x ws hx (by simp only [List.length_cons] at hk; omega) h1 with h2 | ⟨h2, e2⟩
     · exact .inl h2
     · refine .inr ⟨h2, e2.trans ?_⟩
       simp only [List.map_append, e1, List.map_cons, List.append_assoc, List.cons_append, List.nil_append]
theorem locals_ok {v : Va} {l : List Va} {w : List Wd} (h : Vse (v :: l) w) {s : St} {x : Wd} {ws : List Wd} (hx : x.kind ≠ 1) (ha : At W s (w ++ (x :: ws))) : OutV W (locals_ W s) (v :: l) (x :: ws) := by
 cases h with
 | @cons _ _ w w' h hl =>
 have ha : At W s (w ++ (semi :: (w' ++ (x :: ws)))) := by simpa using ha
 have hkd : kind W s = 1 := by
  obtain ⟨nm, ys, rfl⟩ := vl_head h
  exact At.kind (w := nmW nm) ha
 unfold locals_
 rw [if_pos hkd]
 simp only
 rcases zg9 h ha with h1 | ⟨h1, e1⟩
 · simp only [zbk (W := W) (s := want1 W (local_ W s).2 [59]) (ne2 h1)]
   exact .inl h1
 · have hlen := h1.len
   have := vse_len hl
   simp only [List.length_cons, List.length_append] at hlen
   rcases zg7 hl (W.length + 1) (local_ W s).1 _ x ws hx (by omega) h1 with h2 | ⟨h2, e2⟩
   · exact .inl h2
   · refine .inr ⟨h2, e2.trans ?_⟩
     simp only [List.map_append, e1, List.map_cons, List.cons_append, List.nil_append]
def Ew (e : Ex) (w : List Wd) : Prop := (∃ t, Tr e w t) \/ ∃ cw t, Tr e cw t /\ w = lp :: (cw ++ [rp])
theorem ew_expr {e : Ex} {w : List Wd} (h : Ew e w) : Rd W (Fol F8) (lv W 29).expr e w := by
 rcases h with ⟨t, h⟩ | ⟨cw, t, h, rfl⟩
 · exact (lv_ok 29).expr e w t h
 · have h1 : LvOk W (lv W 28) := lv_ok 28
   have hp : Rd W (Fol F0) (primF W false (lv W 28)) e (lp :: (cw ++ [rp])) := fun s ws ha hf => ze5 ((zit (last := false) fun _ => h1).cont _ _ (.tr h)) (by simpa using ha)
   have hu : Rd W (Fol F0) (unF W false (lv W 28)) e (lp :: (cw ++ [rp])) := hp.un ⟨lp, _, rfl, by rfl, by rfl, by rfl, by rfl⟩ false (lv W 28).un
   have h2 : Rd W (Fol F8) (exprF W false (lv W 28) (unF W false (lv W 28))) e (lp :: (cw ++ [rp])) := at_expr (last := false) (b := lv W 28) (u := unF W false (lv W 28)) hu
   have h3 : (lv W 29).expr = exprF W false (lv W 28) (unF W false (lv W 28)) := by
    show (lvOf W false (lv W 28)).expr = _
    rw [zho]
   rw [h3]
   exact h2
inductive Es : List Eqn -> List Wd -> Prop
 | nil : Es [] []
 | cons {nm : Bs} {e : Ex} {pos : Nat} {l : List Eqn} {w ws : List Wd} (h : Wok (nmW nm)) (he : Ew e w) (hl : Es l ws) : Es (⟨nm, e, pos⟩ :: l) (nmW nm :: eqs_ :: (w ++ (semi :: ws)))
theorem es_len : ∀ {l : List Eqn} {w : List Wd}, Es l w -> l.length <= w.length
 | _, _, .nil => Nat.le_refl _
 | _, _, .cons h he hl => by
   have := es_len hl
   simp only [List.length_cons, List.length_append]
   omega
theorem eqsL_ok : ∀ {l : List Eqn} {w : List Wd}, Es l w -> ∀ (k : Nat) (acc : List Eqn) (s : St) (x : Wd) (ws : List Wd), x.kind ≠ 1 -> l.length <= k -> At W s (w ++ (x :: ws)) ->
  (eqsL W k acc s).2.err = 2 \/ (At W (eqsL W k acc s).2 (x :: ws) /\ (eqsL W k acc s).1.map Eqn.er = (acc ++ l).map Eqn.er)
 | _, _, .nil, k, acc, s, x, ws, hx, hk, ha => by
   have ha : At W s (x :: ws) := ha
   have : eqsL W k acc s = (acc, s) := by
    cases k with
    | zero => rfl
    | succ k => rw [eqsL, if_neg]; rw [ha.kind]; exact fun q => hx q.2
   rw [this]
   exact .inr ⟨ha, by simp⟩
 | _, _, .cons h he hl, 0, acc, s, x, ws, hx, hk, ha => by simp at hk
 | _, _, .cons (nm := nm) (e := e) (pos := pos) (l := l) (w := w) (ws := w') h he hl, k + 1, acc, s, x, ws, hx, hk, ha => by
   have ha : At W s (nmW nm :: eqs_ :: (w ++ (semi :: (w' ++ (x :: ws))))) := by simpa using ha
   rw [eqsL, if_pos ⟨ha.1, ha.kind⟩]
   have h1 : At W { s with i := s.i + 1 } (eqs_ :: (w ++ (semi :: (w' ++ (x :: ws))))) := ha.next rfl ha.1
   obtain ⟨h2, _⟩ := zaG h1 (show isW eqs_ [61] = true from rfl)
   simp only [zdj ha]
   have h3 : At W { want1 W { s with i := s.i + 1 } [61] with parts := 0 } (w ++ (semi :: (w' ++ (x :: ws)))) := h2.same rfl rfl
   rw [if_pos h3.1]
   have hrd := ew_expr he _ _ h3 ⟨semi, _, rfl, by decide⟩
   generalize (lv W 29).expr { want1 W { s with i := s.i + 1 } [61] with parts := 0 } = r at hrd ⊢
   rcases hrd with h4 | ⟨h4, _, e4⟩
   · rw [zaA (ne2 h4), zd5 (ne2 h4)]
     exact .inl h4
   · obtain ⟨h5, _⟩ := zaG h4 (show isW semi [59] = true from rfl)
     rcases eqsL_ok hl k _ _ x ws hx (by simp only [List.length_cons] at hk; omega) h5 with h6 | ⟨h6, e6⟩
     · exact .inl h6
     · refine .inr ⟨h6, e6.trans ?_⟩
       simp only [List.map_append, List.map_cons, List.map_nil, Eqn.er, e4, List.append_assoc, List.cons_append, List.nil_append]
def Nw (n : Nd) (w : List Wd) : Prop := ∃ (wi wo wl we : List Wd) (b : Bool), Wok (nmW n.name) /\ Vs0 n.ins wi /\ Vs0 n.outs wo /\ (n.locals = [] /\ wl = [] \/ n.locals ≠ [] /\ ∃ u, Vse n.locals u /\ wl = kw sVar :: u) /\ Es n.eqs we /\
 w = kw sNode :: nmW n.name :: lp :: (wi ++ (rp :: kw sReturns :: lp :: (wo ++ (rp :: semi :: (wl ++ (kw sLet :: (we ++ (kw sTel :: (if b then [semi] else [])))))))))
theorem node_ok {n : Nd} {w : List Wd} (h : Nw n w) {s : St} {x : Wd} {ws : List Wd} (hx : isW x [59] = false) (ha : At W s (w ++ (x :: ws))) : (node W s).2.err = 2 \/ (At W (node W s).2 (x :: ws) /\ (node W s).1.er = n.er) := by
 obtain ⟨wi, wo, wl, we, b, hn, hi, ho, hl, he, rfl⟩ := h
 have ha : At W s (kw sNode :: nmW n.name :: lp :: (wi ++ (rp :: kw sReturns :: lp :: (wo ++ (rp :: semi :: (wl ++ (kw sLet :: (we ++ (kw sTel :: ((if b then [semi] else []) ++ (x :: ws)))))))))) ) := by simpa using ha
 unfold node
 have h0 : At W { s with names := 0 } _ := ha.same (s' := { s with names := 0 }) rfl rfl
 obtain ⟨h1, _⟩ := zaG h0 (show isW (kw sNode) [110, 111, 100, 101] = true from rfl)
 generalize hs1 : want1 W { s with names := 0 } [110, 111, 100, 101] = s1 at *
 have h2 := h1.next (s' := { s1 with i := s1.i + 1 }) rfl h1.1
 simp only [zdj h1]
 obtain ⟨h3, _⟩ := zaG h2 (show isW lp [40] = true from rfl)
 generalize hs3 : want1 W { s1 with i := s1.i + 1 } [40] = s3 at *
 have tail : ∀ s' : St, s'.err = 2 -> ∀ (l : List Va), (take W (want1 W (eqsL W (W.length + 1) [] (want1 W s' [108, 101, 116])).2 [116, 101, 108]) [59]).2.err = 2 := by
  intro s' hb _
  have hb' : s'.err ≠ 0 := ne2 hb
  rw [zaA hb', zd5 hb']
  simp only
  rw [zaA hb', zed hb']
  exact hb
 have mid : ∀ s' : St, s'.err = 2 -> (take W (want1 W (eqsL W (W.length + 1) [] (want1 W (if (take W (want W s' [[41], [59]]) [118, 97, 114]).1 = true then locals_ W (take W (want W s' [[41], [59]]) [118, 97, 114]).2 else ([], (take W (want W s' [[41], [59]]) [118, 97, 114]).2)).2 [108, 101, 116])).2 [116, 101, 108]) [59]).2.err = 2 := by
  intro s' hb
  have hb' : s'.err ≠ 0 := ne2 hb
  rw [zdZ hb', zed hb']
  simp only [Bool.false_eq_true, if_false]
  exact tail s' hb []
 rcases decls_ok hi h3 with h4 | ⟨h4, e4⟩
 · left
   have hb : (want W (decls W s3).2 [[41], [114, 101, 116, 117, 114, 110, 115], [40]]) = (decls W s3).2 := zdZ (ne2 h4) _
   have hb2 : (decls W (decls W s3).2).2.err = 2 := (zdo (ne2 h4)).trans h4
   rw [hb]
   exact mid _ hb2
 obtain ⟨h5, _⟩ := zaG h4 (show isW rp [41] = true from rfl)
 obtain ⟨h6, _⟩ := zaG h5 (show isW (kw sReturns) [114, 101, 116, 117, 114, 110, 115] = true from rfl)
 obtain ⟨h7, _⟩ := zaG h6 (show isW lp [40] = true from rfl)
 have hw7 : want W (decls W s3).2 [[41], [114, 101, 116, 117, 114, 110, 115], [40]] = want1 W (want1 W (want1 W (decls W s3).2 [41]) [114, 101, 116, 117, 114, 110, 115]) [40] := rfl
 rw [hw7]
 generalize hs7 : want1 W (want1 W (want1 W (decls W s3).2 [41]) [114, 101, 116, 117, 114, 110, 115]) [40] = s7 at *
 rcases decls_ok ho h7 with h8 | ⟨h8, e8⟩
 · exact .inl (mid _ h8)
 obtain ⟨h9, _⟩ := zaG h8 (show isW rp [41] = true from rfl)
 obtain ⟨h10, _⟩ := zaG h9 (show isW semi [59] = true from rfl)
 have hw10 : want W (decls W s7).2 [[41], [59]] = want1 W (want1 W (decls W s7).2 [41]) [59] := rfl
 rw [hw10]
 generalize hs10 : want1 W (want1 W (decls W s7).2 [41]) [59] = s10 at *
 have locs : ∃ r : List Va × St, (if (take W s10 [118, 97, 114]).1 = true then locals_ W (take W s10 [118, 97, 114]).2 else ([], (take W s10 [118, 97, 114]).2)) = r /\ (r.2.err = 2 \/ (At W r.2 (kw sLet :: (we ++ (kw sTel :: ((if b then [semi] else []) ++ (x :: ws))))) /\ r.1.map Va.er = n.locals.map Va.er)) := by
  refine ⟨_, rfl, ?_⟩
  rcases hl with ⟨hl, rfl⟩ | ⟨hl, u, hu, rfl⟩
  · rw [zfh (w := kw sLet) h10 rfl]
    exact .inr ⟨h10, by rw [hl]; rfl⟩
  · rw [zhc (w := kw sVar) h10 rfl]
    have h11 : At W { s10 with i := s10.i + 1 } (u ++ (kw sLet :: (we ++ (kw sTel :: ((if b then [semi] else []) ++ (x :: ws)))))) := At.next (w := kw sVar) h10 rfl h10.1
    obtain ⟨v, l, hvl⟩ : ∃ v l, n.locals = v :: l := by
     cases hq : n.locals with
     | nil => exact absurd hq hl
     | cons v l => exact ⟨v, l, rfl⟩
    rw [hvl] at hu ⊢
    exact locals_ok hu (by decide) h11
 obtain ⟨r, hr, hr2⟩ := locs
 rw [hr]
 rcases hr2 with h11 | ⟨h11, e11⟩
 · exact .inl (tail _ h11 [])
 obtain ⟨h12, _⟩ := zaG h11 (show isW (kw sLet) [108, 101, 116] = true from rfl)
 have hlen := h12.len
 have hel := es_len he
 simp only [List.length_append, List.length_cons] at hlen
 rcases eqsL_ok he (W.length + 1) [] _ (kw sTel) _ (by decide) (by omega) h12 with h13 | ⟨h13, e13⟩
 · left
   rw [zaA (ne2 h13), zed (ne2 h13)]
   exact h13
 obtain ⟨h14, _⟩ := zaG h13 (show isW (kw sTel) [116, 101, 108] = true from rfl)
 right
 have e : Nd.er ⟨n.name, (decls W s3).1, (decls W s7).1, r.1, (eqsL W (W.length + 1) [] (want1 W r.2 [108, 101, 116])).1, (at_ W s).1⟩ = n.er := by
  simp only [Nd.er, e4, e8, e11, e13, List.nil_append]
 cases b
 · rw [zfh (w := x) h14 hx]
   exact ⟨h14, e⟩
 · rw [zhc (w := semi) h14 rfl]
   exact ⟨At.next (w := semi) h14 rfl h14.1, e⟩
inductive Ns : List Nd -> List Wd -> Prop
 | nil : Ns [] []
 | cons {n : Nd} {l : List Nd} {w ws : List Wd} (h : Nw n w) (hl : Ns l ws) : Ns (n :: l) (w ++ ws)
def endW : Wd := ⟨0, [], 0⟩
theorem ns_head {l : List Nd} {w : List Wd} (h : Ns l w) : ∃ x xs, w ++ [endW] = x :: xs /\ isW x [59] = false := by
 cases h with
 | nil => exact ⟨endW, [], rfl, rfl⟩
 | cons h hl =>
   obtain ⟨wi, wo, wl, we, b, _, _, _, _, _, rfl⟩ := h
   exact ⟨kw sNode, _, rfl, rfl⟩
theorem zig : ∀ {l : List Nd} {w : List Wd}, Ns l w -> ∀ (k : Nat) (acc : List Nd) (s : St), acc.length + k = 33 -> acc.length <= 32 -> (l = [] -> acc ≠ []) -> At W s (w ++ [endW]) ->
  (nodesL W k acc s).2.err = 2 \/ ((nodesL W k acc s).2.err = 0 /\ (nodesL W k acc s).1.map Nd.er = (acc ++ l).map Nd.er)
 | _, _, _, 0, acc, s, hk, hk2, hne, ha => by omega
 | _, _, .nil, k + 1, acc, s, hk, hk2, hne, ha => by
   have hz : kind W s = 0 := At.kind (w := endW) (ws := []) ha
   rw [nodesL, if_neg]
   · exact .inr ⟨ha.1, by simp⟩
   · rintro ⟨_, h | h⟩
     · exact hne rfl h
     · exact h hz
 | _, _, .cons (n := n) (l := l) (w := w) (ws := ws) h hl, k + 1, acc, s, hk, hk2, hne, ha => by
   have hkd : kind W s ≠ 0 := by
    obtain ⟨wi, wo, wl, we, b, _, _, _, _, _, rfl⟩ := h
    rw [At.kind (w := kw sNode) ha]
    decide
   rw [nodesL, if_pos ⟨ha.1, .inr hkd⟩]
   by_cases h32 : acc.length = 32
   · rw [if_pos h32]
     exact .inl (fail_err ha.1 2)
   · rw [if_neg h32]
     obtain ⟨x, xs, hxs, hx⟩ := ns_head hl
     have ha2 : At W s (w ++ (x :: xs)) := by rw [List.append_assoc, hxs] at ha; exact ha
     have hn := node_ok h hx ha2
     generalize node W s = r at hn ⊢
     show (nodesL W k (acc ++ [r.1]) r.2).2.err = 2 \/ ((nodesL W k (acc ++ [r.1]) r.2).2.err = 0 /\ (nodesL W k (acc ++ [r.1]) r.2).1.map Nd.er = _)
     rcases hn with h1 | ⟨h1, e1⟩
     · left
       cases k with
       | zero => rw [nodesL]; exact h1
       | succ k => rw [nodesL, if_neg fun q => ne2 h1 q.1]; exact h1
     · rw [<- hxs] at h1
       rcases zig hl k (acc ++ [r.1]) r.2 (by simp; omega) (by simp; omega) (fun _ => by simp) h1 with h2 | ⟨h2, e2⟩
       · exact .inl h2
       · refine .inr ⟨h2, e2.trans ?_⟩
         simp only [List.map_append, List.map_cons, List.map_nil, e1, List.append_assoc, List.cons_append, List.nil_append]
theorem parse_back {t : Bs} {l : List Nd} {w : List Wd} (hc : Cuts t.length t w) (h : Ns l w) (hl : l ≠ []) : (∃ p, parse t = .error (2, p)) \/ ∃ l', parse t = .ok l' /\ l'.map Nd.er = l.map Nd.er := by
 obtain ⟨ls, h1, h2⟩ := hc
 unfold parse
 by_cases hb : 16384 < t.length
 · rw [if_pos hb]; exact .inl ⟨_, rfl⟩
 rw [if_neg hb, h1]
 simp only
 have ha : At (ls ++ [(t.length, ⟨0, [], 0⟩)]) ⟨0, 0, 0, 0, 0⟩ (w ++ [endW]) := ⟨rfl, by simp [sfx, h2, endW]⟩
 rcases zig h 33 [] _ rfl (by decide) (fun q => absurd q hl) ha with h3 | ⟨h3, e3⟩
 · left
   rw [if_neg (by rw [h3]; decide), h3]
   exact ⟨_, rfl⟩
 · right
   rw [if_pos h3]
   exact ⟨_, rfl, e3⟩
variable {W : Ws}
def WsG (W : Ws) : Prop := ∀ s : St, (Syn.kind W s = 1 -> Wok (nmW (Syn.text W s))) /\ ((at_ W s).2.kind = 3 -> (at_ W s).2.n < 9223372036854775808)
theorem zax {s : St} {t : Bs} (h : (want1 W s t).err = 0) : s.err = 0 := by
 by_cases q : s.err = 0
 · exact q
 · rw [zaA q] at h; exact h
theorem zec {s : St} {t : Bs} : (take W s t).2.err = s.err := by
 unfold take
 split <;> rfl
theorem zem {s : St} (h : (name W s).2.err = 0) : s.err = 0 /\ Syn.kind W s = 1 /\ (name W s).1 = Syn.text W s := by
 by_cases q : s.err = 0
 · refine ⟨q, ?_⟩
   unfold name at h ⊢
   by_cases hk : Syn.kind W s = 1
   · simp only [hk, if_true, q]
     exact ⟨trivial, trivial⟩
   · have e : (fail W 7 s).err = 7 := fail_err q 7
     simp only [hk, if_false, e] at h
     simp [e] at h
 · rw [zcM q] at h
   exact absurd h q
theorem name_ok (hG : WsG W) {s : St} (h : (name W s).2.err = 0) : Wok (nmW (name W s).1) := by
 obtain ⟨_, h1, h2⟩ := zem h
 rw [h2]
 exact (hG s).1 h1
theorem zb8 {last : Bool} {s : St} (h : (deeper W last s).2.err = 0) : s.err = 0 /\ last = false /\ deeper W last s = (true, s) := by
 by_cases q : s.err = 0
 · cases last
   · refine ⟨q, rfl, ?_⟩
     unfold deeper
     simp [q]
   · unfold deeper at h
     simp [fail_err q] at h
 · rw [zd6 q] at h
   exact absurd h q
theorem zcP {s : St} {t : Bs} (h : Syn.is W s t = true) : s.err = 0 /\ Syn.text W s = t := by
 unfold Syn.is at h
 simp only [Bool.and_eq_true, beq_iff_eq] at h
 exact ⟨h.1, h.2.2⟩
theorem is_kind {s : St} {t : Bs} (h : Syn.is W s t = true) : Syn.kind W s = 2 \/ Syn.kind W s = 4 := by
 unfold Syn.is at h
 simp only [Bool.and_eq_true, Bool.or_eq_true, beq_iff_eq] at h
 exact h.2.1
theorem zd3 {s : St} {ts : List Bs} (h : Syn.one W s ts = true) : s.err = 0 /\ Syn.text W s ∈ ts /\ (Syn.kind W s = 2 \/ Syn.kind W s = 4) := by
 unfold Syn.one at h
 obtain ⟨t, ht, h⟩ := List.any_eq_true.1 h
 obtain ⟨h1, h2⟩ := zcP h
 exact ⟨h1, h2 ▸ ht, is_kind h⟩
theorem Stk.err0 {α : Type} {f : St -> α × St} (h : Stk f) {s : St} (hs : (f s).2.err = 0) : s.err = 0 := by
 by_cases q : s.err = 0
 · exact q
 · exact (h s q).symm.trans hs
structure Gd (f : P) : Prop where
 stk : Stk f
 ok : ∀ s, (f s).2.err = 0 -> ∃ w t, Tr (f s).1 w t
def WfE (e : Ex) : Prop := ∃ w t, Tr e w t
theorem wf_bin {op : Bs} {pos : Nat} {a b : Ex} (ho : ∃ o ∈ opsW, o.text = op) (ha : WfE a) (hb : WfE b) : WfE (.mk op [] 0 pos [a, b]) := by
 obtain ⟨o, ho, rfl⟩ := ho
 obtain ⟨u, ta, ha⟩ := ha
 obtain ⟨v, tb, hb⟩ := hb
 exact ⟨_, _, .bin ho ha hb⟩
theorem wf_part {e : Ex} (h : WfE e) : ∃ w t, Trp e w t := by
 obtain ⟨w, t, h⟩ := h
 by_cases hv : ∃ nm n pos ks, e = .mk sVar nm n pos ks
 · obtain ⟨nm, n, pos, ks, rfl⟩ := hv
   generalize hop : sVar = op at h
   cases h with
   | var h => exact ⟨_, _, .var h⟩
   | un ho hk =>
     have := (by decide +kernel : ∀ p ∈ unsW, p.1 ≠ sVar) _ ho
     exact absurd hop.symm this
   | bin ho ha hb =>
     have := (by decide +kernel : ∀ o ∈ opsW, o.text ≠ sVar) _ ho
     exact absurd hop.symm this
   | _ => exact absurd hop (by decide)
 · obtain ⟨op, nm, n, pos, ks⟩ := e
   exact ⟨w, t, .of (fun e => hv ⟨nm, n, pos, ks, by rw [e]⟩) h⟩
theorem rowL_ok {f : P} (hn : Gd f) {ts : List Bs} (hts : ∀ t ∈ ts, ∃ o ∈ opsW, o.text = t) : ∀ (k : Nat) (e : Ex) (s : St), WfE e -> (rowL W f ts k e s).2.err = 0 -> WfE (rowL W f ts k e s).1
 | 0, e, s, he, h => he
 | k + 1, e, s, he, h => by
   rw [rowL] at h ⊢
   cases ho : Syn.one W s ts with
   | false => exact he
   | true =>
     rw [ho, if_pos rfl] at h
     rw [if_pos rfl]
     obtain ⟨_, h1, _⟩ := zd3 ho
     simp only at h ⊢
     have h2 : (f (part W s)).2.err = 0 := by
      by_cases q : (f (part W s)).2.err = 0
      · exact q
      · rw [zbV _ _ q] at h; exact h
     exact rowL_ok hn hts k _ _ (wf_bin (hts _ h1) he (hn.ok _ h2)) h
theorem Gd.row {f : P} (hn : Gd f) {ts : List Bs} (hts : ∀ t ∈ ts, ∃ o ∈ opsW, o.text = t) : Gd (Syn.row W f ts) := ⟨zf0 hn.stk ts, fun s h => by
 unfold Syn.row at h ⊢
 simp only at h ⊢
 have h1 : (f s).2.err = 0 := by
  by_cases q : (f s).2.err = 0
  · exact q
  · rw [zbV _ _ q] at h; exact h
 exact rowL_ok hn hts _ _ _ (hn.ok s h1) h⟩
theorem Gd.right {f : P} (hn : Gd f) {t : Bs} {last : Bool} {below : P} (ht : ∃ o ∈ opsW, o.text = t) (hb : last = false -> Gd below) : Gd (Syn.right W f t last below) := ⟨zf1 hn.stk _ _ _, fun s h => by
 unfold Syn.right at h ⊢
 simp only at h ⊢
 cases hi : Syn.is W (f s).2 t with
 | false =>
   rw [hi, if_neg (by decide)] at h
   exact hn.ok s h
 | true =>
   rw [hi, if_pos rfl] at h
   rw [if_pos rfl]
   have h1 := (zcP hi).1
   by_cases q : (deeper W last (part W (f s).2)).2.err = 0
   · obtain ⟨_, hl, hd⟩ := zb8 q
     rw [hd] at h ⊢
     simp only [if_true] at h ⊢
     exact wf_bin ht (hn.ok s h1) ((hb hl).ok _ h)
   · have hd : (deeper W last (part W (f s).2)).1 = false := by
      unfold deeper at q ⊢
      simpa using q
     rw [hd] at h
     exact absurd h q⟩
theorem Gd.cmp {f : P} (hn : Gd f) : Gd (Syn.cmp W f) := ⟨zjC hn.stk, fun s h => by
 unfold Syn.cmp at h ⊢
 simp only at h ⊢
 cases ho : Syn.one W (f s).2 [[61], [60, 62], [60], [60, 61], [62], [62, 61]] with
 | false =>
   rw [ho, if_neg (by decide)] at h
   exact hn.ok s h
 | true =>
   rw [ho, if_pos rfl] at h
   rw [if_pos rfl]
   obtain ⟨h1, h2, _⟩ := zd3 ho
   exact wf_bin ((by decide +kernel : ∀ t ∈ ([[61], [60, 62], [60], [60, 61], [62], [62, 61]] : List Bs), ∃ o ∈ opsW, o.text = t) _ h2) (hn.ok s h1) (hn.ok _ h)⟩
theorem whenL_ok (hG : WsG W) : ∀ (k : Nat) (e : Ex) (s : St), WfE e -> (whenL W k e s).2.err = 0 -> WfE (whenL W k e s).1
 | 0, e, s, he, h => he
 | k + 1, e, s, he, h => by
   rw [whenL] at h ⊢
   cases hi : Syn.is W s [119, 104, 101, 110] with
   | false => exact he
   | true =>
     rw [hi, if_pos rfl] at h
     rw [if_pos rfl]
     simp only at h ⊢
     have h1 : (name W (take W (part W s) [110, 111, 116]).2).2.err = 0 := by
      by_cases q : (name W (take W (part W s) [110, 111, 116]).2).2.err = 0
      · exact q
      · rw [zbg q] at h; exact h
     refine whenL_ok hG k _ _ ?_ h
     obtain ⟨w, t, he⟩ := he
     have hn := name_ok hG h1
     cases (take W (part W s) [110, 111, 116]).1
     · exact ⟨_, _, .whn hn he⟩
     · exact ⟨_, _, .whnot hn he⟩
theorem Gd.when_ (hG : WsG W) {f : P} (hn : Gd f) : Gd (Syn.when_ W f) := ⟨zgY hn.stk, fun s h => by
 unfold Syn.when_ at h ⊢
 simp only at h ⊢
 have h1 : (f s).2.err = 0 := by
  by_cases q : (f s).2.err = 0
  · exact q
  · rw [zbg q] at h; exact h
 exact whenL_ok hG _ _ _ (hn.ok s h1) h⟩
theorem Gd.inner {last : Bool} {below : P} (hb : last = false -> Gd below) : Gd (Syn.inner W last below) := ⟨zep _ _, fun s h => by
 unfold Syn.inner at h ⊢
 simp only at h ⊢
 by_cases q : (deeper W last s).2.err = 0
 · obtain ⟨_, hl, hd⟩ := zb8 q
   rw [hd] at h ⊢
   simp only [if_true] at h ⊢
   exact (hb hl).ok _ h
 · have hd : (deeper W last s).1 = false := by
    unfold deeper at q ⊢
    simpa using q
   rw [hd] at h
   exact absurd h q⟩
theorem Gd.un {pr below : P} {last : Bool} (hp : Gd pr) (hb : last = false -> Gd below) : Gd (Syn.un W pr last below) := ⟨un_stk hp.stk _ _, fun s h => by
 unfold Syn.un at h ⊢
 cases ho : Syn.one W s [[110, 111, 116], [45], [112, 114, 101]] with
 | false =>
   rw [ho, if_neg (by decide)] at h
   exact hp.ok s h
 | true =>
   rw [ho, if_pos rfl] at h
   rw [if_pos rfl]
   obtain ⟨h1, h2, _⟩ := zd3 ho
   simp only at h ⊢
   by_cases q : (deeper W last (part W s)).2.err = 0
   · obtain ⟨_, hl, hd⟩ := zb8 q
     rw [hd] at h ⊢
     simp only [if_true] at h ⊢
     obtain ⟨w, t, hk⟩ := (hb hl).ok _ h
     have hx : ∃ o, ((if (at_ W s).2.text = [45] then [110, 101, 103] else (at_ W s).2.text), o) ∈ unsW := by
      have : ∀ t ∈ ([[110, 111, 116], [45], [112, 114, 101]] : List Bs), ∃ p ∈ unsW, p.1 = (if t = [45] then [110, 101, 103] else t) := by decide +kernel
      obtain ⟨⟨a, o⟩, hp, he⟩ := this _ h2
      exact ⟨o, he ▸ hp⟩
     obtain ⟨o, ho⟩ := hx
     exact ⟨_, _, .un ho hk⟩
   · have hd : (deeper W last (part W s)).1 = false := by
      unfold deeper at q ⊢
      simpa using q
     rw [hd] at h
     exact absurd h q⟩
variable {W : Ws}
theorem argsL_wf {inn : P} (hi : Gd inn) : ∀ (k : Nat) (l : List Ex) (s : St), (∀ e ∈ l, WfE e) -> (argsL W inn k l s).2.err = 0 -> ∀ e ∈ (argsL W inn k l s).1, WfE e
 | 0, l, s, hl, h => hl
 | k + 1, l, s, hl, h => by
   rw [argsL] at h ⊢
   cases hq : Syn.is W s [44] with
   | false => exact hl
   | true =>
     rw [hq, if_pos rfl] at h
     rw [if_pos rfl]
     simp only at h ⊢
     have h2 : (inn { s with i := s.i + 1 }).2.err = 0 := by
      by_cases q : (inn { s with i := s.i + 1 }).2.err = 0
      · exact q
      · rw [zcA _ q] at h; exact h
     refine argsL_wf hi k _ _ (fun e he => ?_) h
     rcases List.mem_append.1 he with he | he
     · exact hl e he
     · rw [List.mem_singleton.1 he]; exact hi.ok _ h2
theorem ziK {inn : P} (hi : Gd inn) {s : St} (h : (arguments W inn s).2.err = 0) : ∀ e ∈ (arguments W inn s).1, WfE e := by
 unfold arguments at h ⊢
 cases hq : Syn.is W s [41] with
 | true => rw [if_pos rfl]; intro e he; simp at he
 | false =>
   rw [hq, if_neg (by decide)] at h
   rw [if_neg (by decide)]
   simp only at h ⊢
   have h1 := zax h
   have h2 : (inn s).2.err = 0 := by
    by_cases q : (inn s).2.err = 0
    · exact q
    · rw [zcA _ q] at h1; exact h1
   exact argsL_wf hi _ _ _ (fun e he => by rw [List.mem_singleton.1 he]; exact hi.ok _ h2) h1
theorem wf_trs : ∀ {l : List Ex}, (∀ e ∈ l, WfE e) -> ∃ w t, Trs l w t
 | [], _ => ⟨_, _, .nil⟩
 | e :: l, h => by
   obtain ⟨w, t, he⟩ := h e (by simp)
   obtain ⟨ws, ts, hl⟩ := wf_trs fun x hx => h x (List.mem_cons_of_mem _ hx)
   exact ⟨_, _, .cons he hl⟩
theorem wf_call {nm : Bs} {pos : Nat} {l : List Ex} (hn : Wok (nmW nm)) (h : ∀ e ∈ l, WfE e) : WfE (.mk sCall nm 0 pos l) := by
 cases l with
 | nil => exact ⟨_, _, .call0 hn⟩
 | cons e l =>
   obtain ⟨w, t, he⟩ := h e (by simp)
   obtain ⟨ws, ts, hl⟩ := wf_trs fun x hx => h x (List.mem_cons_of_mem _ hx)
   exact ⟨_, _, .call hn he hl⟩
theorem rest_wf (hG : WsG W) {inn mer : P} (hi : Gd inn) (hm : Gd mer) {s0 s : St} (hk : (at_ W s0).2.kind = 3 \/ (at_ W s0).2.kind = 1 \/ Syn.one W s0 [sTrue, sFalse, sIf, sMerge] = true)
  (h : (rest W inn mer (at_ W s0) s).2.err = 0) : WfE (rest W inn mer (at_ W s0) s).1 := by
 have hG0 := hG s0
 have hG1 : (at_ W s0).2.kind = 1 -> Wok (nmW (at_ W s0).2.text) := hG0.1
 have hG3 := hG0.2
 have hk' : (at_ W s0).2.kind = 3 \/ (at_ W s0).2.kind = 1 \/ (at_ W s0).2.text ∈ [sTrue, sFalse, sIf, sMerge] := by
  rcases hk with hk | hk | hk
  · exact .inl hk
  · exact .inr (.inl hk)
  · exact .inr (.inr (zd3 hk).2.1)
 generalize at_ W s0 = x at *
 unfold rest at h ⊢
 by_cases c3 : x.2.kind = 3
 · rw [if_pos c3]; exact ⟨_, _, .int (hG3 c3)⟩
 rw [if_neg c3] at h ⊢
 by_cases ct : x.2.text = [116, 114, 117, 101]
 · rw [if_pos ct]; exact ⟨_, _, .tt⟩
 rw [if_neg ct] at h ⊢
 by_cases cf : x.2.text = [102, 97, 108, 115, 101]
 · rw [if_pos cf]; exact ⟨_, _, .ff⟩
 rw [if_neg cf] at h ⊢
 by_cases c1 : x.2.kind = 1
 · rw [if_pos c1] at h ⊢
   cases hq : Syn.is W s [40] with
   | false => rw [if_neg (by decide)]; exact ⟨_, _, .var (hG1 c1)⟩
   | true =>
     rw [hq, if_pos rfl] at h
     rw [if_pos rfl]
     exact wf_call (hG1 c1) (ziK hi h)
 rw [if_neg c1] at h ⊢
 by_cases ci : x.2.text = [105, 102]
 · rw [if_pos ci] at h ⊢
   simp only at h ⊢
   have h3 := zax (hi.stk.err0 h)
   have h2 := zax (hi.stk.err0 h3)
   obtain ⟨_, _, a⟩ := hi.ok _ h2
   obtain ⟨_, _, b⟩ := hi.ok _ h3
   obtain ⟨_, _, c⟩ := hi.ok _ h
   rw [ci]
   exact ⟨_, _, .ite a b c⟩
 rw [if_neg ci] at h ⊢
 simp only at h ⊢
 have h2 := hm.stk.err0 h
 have h1 := hm.stk.err0 h2
 obtain ⟨_, _, a⟩ := wf_part (hm.ok _ h2)
 obtain ⟨_, _, b⟩ := wf_part (hm.ok _ h)
 have hme : x.2.text = sMerge := by
  rcases hk' with hk | hk | hk
  · exact absurd hk c3
  · exact absurd hk c1
  · simp only [List.mem_cons, List.not_mem_nil, or_false] at hk
    rcases hk with hk | hk | hk | hk
    · exact absurd hk ct
    · exact absurd hk cf
    · exact absurd hk ci
    · exact hk
 rw [hme]
 exact ⟨_, _, .merge (name_ok hG h1) a b⟩
theorem Gd.prim (hG : WsG W) {inn mer : P} (hi : Gd inn) (hm : Gd mer) : Gd (Syn.prim W inn mer) := ⟨zhi _ _, fun s h => by
 unfold Syn.prim at h ⊢
 simp only at h ⊢
 by_cases c0 : s.err ≠ 0
 · rw [if_pos c0] at h; exact absurd h c0
 rw [if_neg c0] at h ⊢
 cases hq : Syn.is W s [40] with
 | true =>
   rw [hq, if_pos rfl] at h
   rw [if_pos rfl]
   exact hi.ok _ (zax h)
 | false =>
   rw [hq, if_neg (by decide)] at h
   rw [if_neg (by decide)]
   by_cases c : (at_ W s).2.kind = 3 \/ (at_ W s).2.kind = 1 \/ Syn.one W s [[116, 114, 117, 101], [102, 97, 108, 115, 101], [105, 102], [109, 101, 114, 103, 101]] = true
   · rw [if_pos c] at h ⊢
     exact rest_wf hG hi hm c h
   · rw [if_neg c] at h
     have e : s.err = 0 := Decidable.not_not.1 c0
     have e2 : (fail W 7 s).err = 7 := fail_err e 7
     rw [e2] at h
     exact absurd h (by decide)⟩
structure LvGd (L : Lv) : Prop where
 expr : Gd L.expr
 fby : Gd L.fby
 un : Gd L.un
 prim : Gd L.prim
theorem lvOf_gd (hG : WsG W) {last : Bool} {b : Lv} (hb : last = false -> LvGd b) : LvGd (lvOf W last b) := by
 have hp : Gd (primF W last b) := Gd.prim hG (Gd.inner fun h => (hb h).expr) (Gd.inner fun h => (hb h).prim)
 have hu : Gd (unF W last b) := Gd.un hp fun h => (hb h).un
 have hw : Gd (whnF W (unF W last b)) := Gd.when_ hG hu
 have hf : Gd (fbyF W last b (unF W last b)) := Gd.right hw (by decide +kernel) fun h => (hb h).fby
 have hm : Gd (mulF W last b (unF W last b)) := Gd.row hf (by decide +kernel)
 have ha : Gd (addF W last b (unF W last b)) := Gd.row hm (by decide +kernel)
 have hc : Gd (cmpF W last b (unF W last b)) := Gd.cmp ha
 have hn : Gd (andF W last b (unF W last b)) := Gd.row hc (by decide +kernel)
 have ho : Gd (orF W last b (unF W last b)) := Gd.row hn (by decide +kernel)
 have he : Gd (exprF W last b (unF W last b)) := Gd.right ho (by decide +kernel) fun h => (hb h).expr
 rw [zho]
 generalize exprF W last b (unF W last b) = f1 at *
 generalize fbyF W last b (unF W last b) = f2 at *
 generalize unF W last b = f3 at *
 generalize primF W last b = f4 at *
 exact ⟨he, hf, hu, hp⟩
theorem lv_gd (hG : WsG W) : ∀ d, LvGd (lv W d)
 | 0 => lvOf_gd hG (fun h => by cases h)
 | d + 1 => lvOf_gd hG fun _ => lv_gd hG d
/-! Declarations -/
def WfV (v : Va) : Prop := ∃ w, Vd v w
def WfL (v : Va) : Prop := ∃ w, Vl v w
def WfD (v : Va) : Prop := Wok (nmW v.name) /\ v.on = [] /\ v.neg = false
theorem zfQ (hG : WsG W) {s : St} (h : (declared W s).2.err = 0) : WfD (declared W s).1 := by
 unfold declared at h ⊢
 simp only at h ⊢
 exact ⟨name_ok hG h, rfl, rfl⟩
theorem declL_wf (hG : WsG W) : ∀ (k : Nat) (l : List Va) (s : St), (∀ v ∈ l, WfD v) -> (declL W k l s).2.err = 0 -> ∀ v ∈ (declL W k l s).1, WfD v
 | 0, l, s, hl, h => hl
 | k + 1, l, s, hl, h => by
   rw [declL] at h ⊢
   cases hq : Syn.is W s [44] with
   | false => exact hl
   | true =>
     rw [hq, if_pos rfl] at h
     rw [if_pos rfl]
     simp only at h ⊢
     have h2 : (declared W { s with i := s.i + 1 }).2.err = 0 := by
      by_cases q : (declared W { s with i := s.i + 1 }).2.err = 0
      · exact q
      · rw [zc7 q] at h; exact h
     refine declL_wf hG k _ _ (fun e he => ?_) h
     rcases List.mem_append.1 he with he | he
     · exact hl e he
     · rw [List.mem_singleton.1 he]; exact zfQ hG h2
theorem zj7 (hG : WsG W) {s : St} (h : (decl W s).2.err = 0) : ∀ v ∈ (decl W s).1, WfV v := by
 unfold decl at h ⊢
 simp only at h ⊢
 have key : (want1 W (declL W (W.length + 1) [(declared W s).1] (declared W s).2).2 [58]).err = 0 -> ∀ v ∈ (declL W (W.length + 1) [(declared W s).1] (declared W s).2).1, WfD v := by
  intro q
  have h1 := zax q
  have h2 : (declared W s).2.err = 0 := by
   by_cases q : (declared W s).2.err = 0
   · exact q
   · rw [zc7 q] at h1; exact h1
  exact declL_wf hG _ _ _ (fun v hv => by rw [List.mem_singleton.1 hv]; exact zfQ hG h2) h1
 generalize want1 W (declL W (W.length + 1) [(declared W s).1] (declared W s).2).2 [58] = s2 at *
 generalize (declL W (W.length + 1) [(declared W s).1] (declared W s).2).1 = l at *
 by_cases c1 : Syn.is W s2 [98, 111, 111, 108] = true
 · rw [if_pos c1]
   intro v hv
   obtain ⟨x, hx, rfl⟩ := List.mem_map.1 hv
   obtain ⟨a, b, c⟩ := key (zcP c1).1 x hx
   obtain ⟨nm, kd, on, ng, pos⟩ := x
   simp only at b c
   subst b c
   exact ⟨_, .bool a⟩
 rw [if_neg c1] at h ⊢
 by_cases c2 : Syn.is W s2 [105, 110, 116] = true
 · rw [if_pos c2]
   intro v hv
   obtain ⟨x, hx, rfl⟩ := List.mem_map.1 hv
   obtain ⟨a, b, c⟩ := key (zcP c2).1 x hx
   obtain ⟨nm, kd, on, ng, pos⟩ := x
   simp only at b c
   subst b c
   exact ⟨_, .int a⟩
 rw [if_neg c2] at h
 exfalso
 have h : (fail W 7 s2).err = 0 := h
 by_cases q : s2.err = 0
 · rw [fail_err q] at h; exact absurd h (by decide)
 · rw [zbX q] at h; exact q h
theorem zi1 (hG : WsG W) : ∀ (k : Nat) (l : List Va) (s : St), (∀ v ∈ l, WfV v) -> (declsL W k l s).2.err = 0 -> ∀ v ∈ (declsL W k l s).1, WfV v
 | 0, l, s, hl, h => hl
 | k + 1, l, s, hl, h => by
   rw [declsL] at h ⊢
   cases hq : Syn.is W s [59] with
   | false => exact hl
   | true =>
     rw [hq, if_pos rfl] at h
     rw [if_pos rfl]
     simp only at h ⊢
     have h2 : (decl W { s with i := s.i + 1 }).2.err = 0 := by
      by_cases q : (decl W { s with i := s.i + 1 }).2.err = 0
      · exact q
      · rw [zbd q] at h; exact h
     refine zi1 hG k _ _ (fun e he => ?_) h
     rcases List.mem_append.1 he with he | he
     · exact hl e he
     · exact zj7 hG h2 e he
theorem decls_wf (hG : WsG W) {s : St} (h : (decls W s).2.err = 0) : ∀ v ∈ (decls W s).1, WfV v := by
 unfold decls at h ⊢
 by_cases c : Syn.kind W s ≠ 1
 · rw [if_pos c]; intro v hv; simp at hv
 rw [if_neg c] at h ⊢
 simp only at h ⊢
 have h2 : (decl W s).2.err = 0 := by
  by_cases q : (decl W s).2.err = 0
  · exact q
  · rw [zbd q] at h; exact h
 exact zi1 hG _ _ _ (zj7 hG h2) h
theorem local_wf (hG : WsG W) {s : St} (h : (local_ W s).2.err = 0) : ∀ v ∈ (local_ W s).1, WfL v := by
 unfold local_ at h ⊢
 simp only at h ⊢
 have key : (decl W s).2.err = 0 -> ∀ v ∈ (decl W s).1, WfV v := zj7 hG
 generalize decl W s = r at *
 cases hq : Syn.is W r.2 [119, 104, 101, 110] with
 | false =>
   rw [hq, if_neg (by decide)] at h
   rw [if_neg (by decide)]
   exact fun v hv => by
    obtain ⟨w, hw⟩ := key h v hv
    exact ⟨_, .no hw⟩
 | true =>
   rw [hq, if_pos rfl] at h
   rw [if_pos rfl]
   have h0 := (zcP hq).1
   have hn := name_ok hG h
   intro v hv
   obtain ⟨x, hx, rfl⟩ := List.mem_map.1 hv
   obtain ⟨w, hw⟩ := key h0 x hx
   have : ∃ nm k pos, x = ⟨nm, k, [], false, pos⟩ := by cases hw <;> exact ⟨_, _, _, rfl⟩
   obtain ⟨nm, k, pos, rfl⟩ := this
   cases (take W { r.2 with i := r.2.i + 1 } [110, 111, 116]).1
   · exact ⟨_, .on hw hn⟩
   · exact ⟨_, .off hw hn⟩
theorem zg6 (hG : WsG W) : ∀ (k : Nat) (l : List Va) (s : St), (∀ v ∈ l, WfL v) -> (localsL W k l s).2.err = 0 -> ∀ v ∈ (localsL W k l s).1, WfL v
 | 0, l, s, hl, h => hl
 | k + 1, l, s, hl, h => by
   rw [localsL] at h ⊢
   by_cases c : s.err = 0 /\ Syn.kind W s = 1
   · rw [if_pos c] at h ⊢
     simp only at h ⊢
     have h2 : (want1 W (local_ W s).2 [59]).err = 0 := by
      by_cases q : (want1 W (local_ W s).2 [59]).err = 0
      · exact q
      · rw [zbk q] at h; exact h
     refine zg6 hG k _ _ (fun e he => ?_) h
     rcases List.mem_append.1 he with he | he
     · exact hl e he
     · exact local_wf hG (zax h2) e he
   · rw [if_neg c]; exact hl
theorem locals_wf (hG : WsG W) {s : St} (h : (locals_ W s).2.err = 0) : ∀ v ∈ (locals_ W s).1, WfL v := by
 unfold locals_ at h ⊢
 simp only at h ⊢
 have key : (if Syn.kind W s = 1 then local_ W s else ([], s)).2.err = 0 -> ∀ v ∈ (if Syn.kind W s = 1 then local_ W s else ([], s)).1, WfL v := by
  split
  · exact local_wf hG
  · intro _ v hv; simp at hv
 generalize (if Syn.kind W s = 1 then local_ W s else ([], s)) = r at *
 have h2 : (want1 W r.2 [59]).err = 0 := by
  by_cases q : (want1 W r.2 [59]).err = 0
  · exact q
  · rw [zbk q] at h; exact h
 exact zg6 hG _ _ _ (key (zax h2)) h
def WfQ (q : Eqn) : Prop := Wok (nmW q.name) /\ WfE q.e
theorem eqsL_wf (hG : WsG W) : ∀ (k : Nat) (l : List Eqn) (s : St), (∀ v ∈ l, WfQ v) -> (eqsL W k l s).2.err = 0 -> ∀ v ∈ (eqsL W k l s).1, WfQ v
 | 0, l, s, hl, h => hl
 | k + 1, l, s, hl, h => by
   rw [eqsL] at h ⊢
   by_cases c : s.err = 0 /\ Syn.kind W s = 1
   · rw [if_pos c] at h ⊢
     simp only at h ⊢
     have key : (if (want1 W (name W s).2 [61]).err = 0 then (lv W 29).expr { want1 W (name W s).2 [61] with parts := 0 } else (.zero, { want1 W (name W s).2 [61] with parts := 0 })).2.err = 0 ->
       Wok (nmW (name W s).1) /\ WfE (if (want1 W (name W s).2 [61]).err = 0 then (lv W 29).expr { want1 W (name W s).2 [61] with parts := 0 } else (.zero, { want1 W (name W s).2 [61] with parts := 0 })).1 := by
      by_cases q : (want1 W (name W s).2 [61]).err = 0
      · rw [if_pos q]
        intro q2
        exact ⟨name_ok hG (zax q), ((lv_gd hG 29).expr).ok _ q2⟩
      · rw [if_neg q]
        intro q2
        exact absurd q2 q
     generalize (if (want1 W (name W s).2 [61]).err = 0 then (lv W 29).expr { want1 W (name W s).2 [61] with parts := 0 } else (.zero, { want1 W (name W s).2 [61] with parts := 0 })) = r at *
     have h2 : (want1 W r.2 [59]).err = 0 := by
      by_cases q : (want1 W r.2 [59]).err = 0
      · exact q
      · rw [zd5 q] at h; exact h
     refine eqsL_wf hG k _ _ (fun e he => ?_) h
     rcases List.mem_append.1 he with he | he
     · exact hl e he
     · rw [List.mem_singleton.1 he]; exact key (zax h2)
   · rw [if_neg c]; exact hl
structure WfN (n : Nd) : Prop where
 name : Wok (nmW n.name)
 ins : ∀ v ∈ n.ins, WfV v
 outs : ∀ v ∈ n.outs, WfV v
 locals : ∀ v ∈ n.locals, WfL v
 eqs : ∀ q ∈ n.eqs, WfQ q
end Go.Syn
