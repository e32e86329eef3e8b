/-
  Own library of this claim, part 1: texts one behind the other (AbsA, AbsB, AbsC, AbsD, AbsE, AbsF, AbsG, AbsGm, AbsH, AbsI, AbsJ, AbsK, AbsKm, AbsL, AbsM, AbsN, AbsO).
-/
import Derived.Calls
import Derived.Orders
import Derived.Laws.Cells
import Derived.Laws.Append
import Derived.Laws.Rows
import Derived.Laws.StructEq
import Derived.Laws.Slices
import Derived.Laws.Strings2
import Derived.Laws.Build
import Derived.Laws.Tables
import Derived.Laws.BytesString
import Derived.Laws.MakeOwn
import Derived.Tactics
set_option linter.unusedVariables false
set_option linter.unusedSimpArgs false

/-
  A simplified meaning for Go code, first part: abstract values, abstract heap, and the relation to the model's world.
-/





namespace Go.Abs
open Go

/-- Abstract values. 'ptr', 'sl' point into a live block of the abstract heap; 'vptr', 'vsl' carry what lies in frozen memory; 'csl' too: its capacity is its length. -/
inductive AV where
  | bool (b : Bool)
  | int (k : IntKind) (n : Int)
  | str (s : List UInt8)
  | nilptr
  | ptr (i o : Nat)
  | vptr (cs : List AV)
  | nilsl
  | sl (i o z len cap : Nat) (opn : Bool)
  | vsl (cs : List AV) (len : Nat)
  | nilmap
  | map (i : Nat)
  | func (fn : Fn) (first captured : List AV)
  | nilfunc
  | iface (t : TypeId) (v : AV)
  | niliface
  | agg (cs : List AV)
  | tuple (vs : List AV)
  | csl (cs : List AV) (len : Nat)
  deriving Inhabited

def AV.cells : AV → List AV
  | .agg cs => cs
  | v => [v]

def AV.scalar : AV → Bool
  | .agg _ | .tuple _ => false
  | _ => true

/-- What an abstract block is. -/
inductive AObj where
  | cells (cs : List AV)
  | row (t : TypeId) (cs : List AV)
  | map (es : List (AV × AV))
  deriving Inhabited

structure AHeap where
  next : Nat
  get : Nat → Option AObj

def AHeap.push (H : AHeap) (x : AObj) : AHeap := { next := H.next + 1, get := fun j => if j = H.next then some x else H.get j }
def AHeap.set (H : AHeap) (i : Nat) (x : AObj) : AHeap := { next := H.next, get := fun j => if j = i then some x else H.get j }
def AHeap.kill (H : AHeap) (i : Nat) : AHeap := { next := H.next, get := fun j => if j = i then none else H.get j }
def AHeap.empty (n : Nat) : AHeap := { next := n, get := fun _ => none }

/-- Where an abstract block lies: the model's block, from which cell on, how many cells that block has, of which element type. -/
structure Place where
  b : Nat
  s : Nat
  n : Nat
  e : TypeId

structure Env where
  φ : Nat → Option Place
  K : Nat → Option Obj
  F : Nat → Option Obj
  os : Os
  out : Array (Nat × ByteArray)

def InK (E : Env) (B o : Nat) (vs : List Value) : Prop := vs = [] ∨ ∃ c e f, E.K B = some (.cells c e f) ∧ vs <+: c.toList.drop o

mutual
inductive VRel (E : Env) : AV → Value → Prop
  | bool (b : Bool) : VRel E (.bool b) (.bool b)
  | int (k : IntKind) (n : Int) : VRel E (.int k n) (.int k n)
  | str (s : List UInt8) : VRel E (.str s) (.string ⟨s.toArray⟩)
  | nilptr : VRel E .nilptr (.pointer none)
  | ptr {i o : Nat} {p : Place} (h : E.φ i = some p) : VRel E (.ptr i o) (.pointer (some ⟨p.b, p.s + o, none⟩))
  | vptr {cs : List AV} {B o : Nat} {vs : List Value} (hK : InK E B o vs) (hv : VRels E cs vs) : VRel E (.vptr cs) (.pointer (some ⟨B, o, none⟩))
  | nilsl : VRel E .nilsl (.slice none 0 0)
  | sl {i o z len cap c' : Nat} {opn : Bool} {p : Place} (h : E.φ i = some p) (hl : len ≤ cap) (hc : cap ≤ c') (ho : opn = false → c' = cap) (hn : p.s + o + c' * z ≤ p.n) :
      VRel E (.sl i o z len cap opn) (.slice (some ⟨p.b, p.s + o, none⟩) len c')
  | vsl {cs : List AV} {B o len cap : Nat} {vs : List Value} (hK : InK E B o vs) (hv : VRels E cs vs) (hl : len ≤ cap) : VRel E (.vsl cs len) (.slice (some ⟨B, o, none⟩) len cap)
  | vsl0 {a : Addr} : VRel E (.vsl [] 0) (.slice (some a) 0 0)
  | nilmap : VRel E .nilmap (.map none)
  | map {i : Nat} {p : Place} (h : E.φ i = some p) : VRel E (.map i) (.map (some p.b))
  | func {fn : Fn} {f1 c1 : List AV} {f2 c2 : Array Value} (hf : VRels E f1 f2.toList) (hc : VRels E c1 c2.toList) : VRel E (.func fn f1 c1) (.func fn f2 c2)
  | nilfunc : VRel E .nilfunc .nilFunc
  | iface {t : TypeId} {a : AV} {v : Value} (h : VRel E a v) : VRel E (.iface t a) (.iface t v)
  | niliface : VRel E .niliface .nilIface
  | agg {cs : List AV} {vs : Array Value} (h : VRels E cs vs.toList) : VRel E (.agg cs) (.agg vs)
  | tuple {cs : List AV} {vs : Array Value} (h : VRels E cs vs.toList) : VRel E (.tuple cs) (.tuple vs)
  | csl {cs : List AV} {B o len : Nat} {vs : List Value} (hK : InK E B o vs) (hv : VRels E cs vs) : VRel E (.csl cs len) (.slice (some ⟨B, o, none⟩) len len)
inductive VRels (E : Env) : List AV → List Value → Prop
  | nil : VRels E [] []
  | cons {a : AV} {v : Value} {as_ : List AV} {vs : List Value} (h : VRel E a v) (t : VRels E as_ vs) : VRels E (a :: as_) (v :: vs)
end

structure Ext (E E' : Env) : Prop where
  φ : ∀ i p, E.φ i = some p → E'.φ i = some p
  K : ∀ B o, E.K B = some o → E'.K B = some o
  F : E'.F = E.F
  os : E'.os = E.os
  out : E'.out = E.out

theorem Ext.refl (E : Env) : Ext E E := ⟨fun _ _ h => h, fun _ _ h => h, rfl, rfl, rfl⟩
theorem Ext.trans {A B C : Env} (h : Ext A B) (k : Ext B C) : Ext A C :=
  ⟨fun i p x => k.φ i p (h.φ i p x), fun i p x => k.K i p (h.K i p x), k.F.trans h.F, k.os.trans h.os, k.out.trans h.out⟩

/-- E' knows at least what E knows (of where blocks lie, of what is frozen). -/
structure Knows (E E' : Env) : Prop where
  φ : ∀ i p, E.φ i = some p → E'.φ i = some p
  K : ∀ B o, E.K B = some o → E'.K B = some o

theorem Knows.refl (E : Env) : Knows E E := ⟨fun _ _ h => h, fun _ _ h => h⟩
theorem Knows.trans {A B C : Env} (h : Knows A B) (k : Knows B C) : Knows A C :=
  ⟨fun i p x => k.φ i p (h.φ i p x), fun i p x => k.K i p (h.K i p x)⟩
theorem Ext.knows {E E' : Env} (h : Ext E E') : Knows E E' := ⟨h.φ, h.K⟩

theorem InK.mono {E E' : Env} (x : Knows E E') {B o : Nat} {vs : List Value} (h : InK E B o vs) : InK E' B o vs := by
  rcases h with h | ⟨c, e, f, h1, h2⟩
  · exact .inl h
  · exact .inr ⟨c, e, f, x.K _ _ h1, h2⟩

mutual
theorem VRel.mono {E E' : Env} (x : Knows E E') : ∀ {a : AV} {v : Value}, VRel E a v → VRel E' a v
  | _, _, .bool b => .bool b
  | _, _, .int k n => .int k n
  | _, _, .str s => .str s
  | _, _, .nilptr => .nilptr
  | _, _, .ptr h => .ptr (x.φ _ _ h)
  | _, _, .vptr hK hv => .vptr (hK.mono x) (VRels.mono x hv)
  | _, _, .nilsl => .nilsl
  | _, _, .sl h hl hc ho hn => .sl (x.φ _ _ h) hl hc ho hn
  | _, _, .vsl hK hv hl => .vsl (hK.mono x) (VRels.mono x hv) hl
  | _, _, .vsl0 => .vsl0
  | _, _, .nilmap => .nilmap
  | _, _, .map h => .map (x.φ _ _ h)
  | _, _, .func hf hc => .func (VRels.mono x hf) (VRels.mono x hc)
  | _, _, .nilfunc => .nilfunc
  | _, _, .iface h => .iface (VRel.mono x h)
  | _, _, .niliface => .niliface
  | _, _, .agg h => .agg (VRels.mono x h)
  | _, _, .tuple h => .tuple (VRels.mono x h)
  | _, _, .csl hK hv => .csl (hK.mono x) (VRels.mono x hv)
theorem VRels.mono {E E' : Env} (x : Knows E E') : ∀ {as_ : List AV} {vs : List Value}, VRels E as_ vs → VRels E' as_ vs
  | _, _, .nil => .nil
  | _, _, .cons h t => .cons (VRel.mono x h) (VRels.mono x t)
end

theorem VRels.length {E : Env} {as_ : List AV} {vs : List Value} (h : VRels E as_ vs) : vs.length = as_.length := by
  induction as_ generalizing vs with
  | nil => cases h; rfl
  | cons a as_ ih => cases h with | cons h t => simp [ih t]

theorem VRels.get? {E : Env} {as_ : List AV} {vs : List Value} (h : VRels E as_ vs) {j : Nat} {a : AV} (ha : as_[j]? = some a) : ∃ v, vs[j]? = some v ∧ VRel E a v := by
  induction as_ generalizing vs j with
  | nil => simp at ha
  | cons b as_ ih =>
    cases h with
    | cons h t =>
      cases j with
      | zero => simp at ha; subst ha; exact ⟨_, rfl, h⟩
      | succ j => simpa using ih t (by simpa using ha)

theorem VRels.get?' {E : Env} {as_ : List AV} {vs : List Value} (h : VRels E as_ vs) {j : Nat} {v : Value} (hv : vs[j]? = some v) : ∃ a, as_[j]? = some a ∧ VRel E a v := by
  induction as_ generalizing vs j with
  | nil => cases h; simp at hv
  | cons b as_ ih =>
    cases h with
    | cons h t =>
      cases j with
      | zero => simp at hv; subst hv; exact ⟨_, rfl, h⟩
      | succ j => simpa using ih t (by simpa using hv)

theorem VRels.append {E : Env} {as_ bs : List AV} {vs ws : List Value} (h : VRels E as_ vs) (k : VRels E bs ws) : VRels E (as_ ++ bs) (vs ++ ws) := by
  induction as_ generalizing vs with
  | nil => cases h; exact k
  | cons a as_ ih => cases h with | cons h t => exact .cons h (ih t)

theorem VRels.drop {E : Env} {as_ : List AV} {vs : List Value} (h : VRels E as_ vs) (n : Nat) : VRels E (as_.drop n) (vs.drop n) := by
  induction n generalizing as_ vs with
  | zero => exact h
  | succ n ih => cases h with
    | nil => exact .nil
    | cons h t => exact ih t

theorem VRels.take {E : Env} {as_ : List AV} {vs : List Value} (h : VRels E as_ vs) (n : Nat) : VRels E (as_.take n) (vs.take n) := by
  induction n generalizing as_ vs with
  | zero => exact .nil
  | succ n ih => cases h with
    | nil => exact .nil
    | cons h t => exact .cons h (ih t)

theorem VRels.set {E : Env} {as_ : List AV} {vs : List Value} (h : VRels E as_ vs) (n : Nat) {a : AV} {v : Value} (k : VRel E a v) : VRels E (as_.set n a) (vs.set n v) := by
  induction n generalizing as_ vs with
  | zero => cases h with
    | nil => exact .nil
    | cons h t => exact .cons k t
  | succ n ih => cases h with
    | nil => exact .nil
    | cons h t => exact .cons h (ih t)

theorem VRels.of_get {E : Env} : ∀ {as_ : List AV} {vs : List Value}, as_.length = vs.length → (∀ (j : Nat) (a : AV) (v : Value), as_[j]? = some a → vs[j]? = some v → VRel E a v) → VRels E as_ vs
  | [], [], _, _ => .nil
  | a :: as_, v :: vs, hl, h => .cons (h 0 a v rfl rfl) (VRels.of_get (by simpa using hl) (fun j a v ha hv => h (j + 1) a v (by simpa using ha) (by simpa using hv)))

theorem VRels.getD {E : Env} {as_ : List AV} {vs : List Value} (h : VRels E as_ vs) (j : Nat) {a : AV} {v : Value} (k : VRel E a v) : VRel E (as_.getD j a) (vs.getD j v) := by
  have hl := h.length
  by_cases hj : j < as_.length
  · obtain ⟨w, hw, hr⟩ := h.get? (List.getElem?_eq_getElem hj)
    simp only [List.getD, hw, List.getElem?_eq_getElem hj, Option.getD_some]
    exact hr
  · simp only [List.getD]
    rw [List.getElem?_eq_none (by omega), List.getElem?_eq_none (by omega)]
    exact k

theorem VRel.cells {E : Env} {a : AV} {v : Value} (h : VRel E a v) : VRels E a.cells v.cells.toList := by
  cases h <;> first
    | (rename_i hh; exact hh)
    | exact .cons .vsl0 .nil
    | (refine .cons ?_ .nil; constructor <;> assumption)

theorem VRel.oneCell {E : Env} {a : AV} {v : Value} (h : VRel E a v) (hs : a.scalar = true) : v.oneCell' = true := by
  cases h <;> simp_all [AV.scalar, Value.oneCell']

/-- No cell of a block of n cells is frozen. (A mark behind its end may be set.) -/
def Unfr (fz : Nat × Nat) (n : Nat) : Prop := fz.1 = fz.2 ∨ n ≤ fz.1

theorem Unfr.out {fz : Nat × Nat} {n : Nat} (h : Unfr fz n) (o : Nat) (ho : o < n) : ¬ (fz.1 ≤ o ∧ o < fz.2) := by
  rcases h with h | h <;> omega

/-- What a live block of the abstract heap is in the model's heap. -/
def ORel (E : Env) (p : Place) : AObj → Obj → Prop
  | .cells cs, ob => ∃ c e fz vs, ob = .cells c e fz ∧ c.size = p.n ∧ VRels E cs vs ∧ vs <+: c.toList.drop p.s ∧ Unfr fz p.n ∧ e = p.e
  | .row t cs, ob => (∃ c e fz vs, ob = .cells c e fz ∧ c.size = p.n ∧ VRels E cs vs ∧ vs <+: c.toList.drop p.s ∧ Unfr fz p.n ∧ e = p.e) ∧ p.e = t ∧ p.s = 0
  | .map es, ob => ∃ ents clk, ob = .map ents clk ∧ VRels E (es.map Prod.fst) (ents.toList.map MapEntry.key) ∧ VRels E (es.map Prod.snd) (ents.toList.map MapEntry.val)

theorem ORel.mono {E E' : Env} (x : Knows E E') {p : Place} {a : AObj} {ob : Obj} (h : ORel E p a ob) : ORel E' p a ob := by
  cases a with
  | cells cs => obtain ⟨c, e, fz, vs, h1, h2, h3, h4, h5⟩ := h; exact ⟨c, e, fz, vs, h1, h2, h3.mono x, h4, h5⟩
  | row t cs => obtain ⟨⟨c, e, fz, vs, h1, h2, h3, h4, h5⟩, h6⟩ := h; exact ⟨⟨c, e, fz, vs, h1, h2, h3.mono x, h4, h5⟩, h6⟩
  | map es => obtain ⟨ents, clk, h1, h2, h3⟩ := h; exact ⟨ents, clk, h1, h2.mono x, h3.mono x⟩

/-- A block of which the element type is forgotten. -/
def AObj.flat : AObj → AObj
  | .cells cs => .cells cs
  | .row _ cs => .cells cs
  | .map es => .map es

theorem ORel.flat {E : Env} {p : Place} {a : AObj} {ob : Obj} (h : ORel E p a ob) : ORel E p a.flat ob := by
  cases a with
  | cells cs => exact h
  | row t cs => exact h.1
  | map es => exact h

structure Rel (E : Env) (H : AHeap) (w : World) : Prop where
  os : w.os = E.os
  out : w.output = E.out
  K : ∀ B o, E.K B = some o → w.heap[B]? = some o
  F : ∀ B o, E.F B = some o → w.heap[B]? = some o
  KF : ∀ B, E.K B = none ∨ E.F B = none
  dom : ∀ i p, E.φ i = some p → i < H.next
  live : ∀ i x, H.get i = some x → ∃ p ob, E.φ i = some p ∧ E.K p.b = none ∧ E.F p.b = none ∧ w.heap[p.b]? = some ob ∧ ORel E p x ob
  inj : ∀ i j x y p q, H.get i = some x → H.get j = some y → E.φ i = some p → E.φ j = some q → p.b = q.b → i = j

theorem Rel.drew {E : Env} {H : AHeap} {w : World} (h : Rel E H w) : Rel E H w.drew := ⟨h.os, h.out, h.K, h.F, h.KF, h.dom, h.live, h.inj⟩

theorem Rel.lt {E : Env} {H : AHeap} {w : World} (h : Rel E H w) {i : Nat} {x : AObj} (hx : H.get i = some x) : i < H.next := by
  obtain ⟨p, _, hp, _⟩ := h.live i x hx
  exact h.dom i p hp

def Env.put (E : Env) (i : Nat) (p : Place) : Env := { E with φ := fun j => if j = i then some p else E.φ j }
def Env.freeze (E : Env) (B : Nat) (o : Obj) : Env := { E with K := fun C => if C = B then some o else E.K C }

theorem Env.put_ext {E : Env} {i : Nat} {p : Place} (h : E.φ i = none) : Ext E (E.put i p) := by
  refine ⟨fun j q hj => ?_, fun _ _ h => h, rfl, rfl, rfl⟩
  simp only [Env.put]
  split
  · rename_i e; subst e; rw [h] at hj; simp at hj
  · exact hj

theorem Rel.fresh {E : Env} {H : AHeap} {w : World} (h : Rel E H w) : E.φ H.next = none := by
  cases hh : E.φ H.next with
  | none => rfl
  | some p => exact absurd (h.dom _ _ hh) (Nat.lt_irrefl _)

/-- A new block, wherever it stands from in the model (n cells, all of them known). -/
theorem Rel.alloc {E : Env} {H : AHeap} {w : World} (h : Rel E H w) (cs : List AV) (vs : List Value) (c : Array Value) (e : TypeId) (fz : Nat × Nat)
    (hv : VRels E cs vs) (hp : vs <+: c.toList) (hfz : Unfr fz c.size) :
    Rel (E.put H.next ⟨w.heap.size, 0, c.size, e⟩) (H.push (.cells cs)) (w.alloc (.cells c e fz)) := by
  have hx := (Env.put_ext (E := E) (i := H.next) (p := ⟨w.heap.size, 0, c.size, e⟩) h.fresh)
  have hsz : ∀ B o, w.heap[B]? = some o → B < w.heap.size := fun B o hb => by
    rcases Nat.lt_or_ge B w.heap.size with q | q
    · exact q
    · rw [Array.getElem?_eq_none q] at hb; simp at hb
  have hold : ∀ B o, w.heap[B]? = some o → (w.alloc (.cells c e fz)).heap[B]? = some o := fun B o hb => by
    have := hsz B o hb
    rw [heap_alloc_old w _ B this]; exact hb
  refine ⟨h.os, h.out, fun B o hb => hold B o (h.K B o hb), fun B o hb => hold B o (h.F B o hb), h.KF, ?_, ?_, ?_⟩
  · intro i p hp
    simp only [Env.put] at hp
    simp only [AHeap.push]
    split at hp
    · omega
    · have := h.dom i p hp; omega
  · intro i x hi
    simp only [AHeap.push] at hi
    split at hi
    · rename_i hin
      subst hin
      simp at hi; subst hi
      refine ⟨⟨w.heap.size, 0, c.size, e⟩, .cells c e fz, by simp [Env.put], ?_, ?_, heap_alloc_new w _, c, e, fz, vs, rfl, rfl, hv.mono hx.knows, by simpa using hp, hfz, rfl⟩
      · cases hk : E.K w.heap.size with
        | none => exact hk
        | some o => exact absurd (hsz _ _ (h.K _ _ hk)) (Nat.lt_irrefl _)
      · cases hk : E.F w.heap.size with
        | none => exact hk
        | some o => exact absurd (hsz _ _ (h.F _ _ hk)) (Nat.lt_irrefl _)
    · obtain ⟨p, ob, h1, h2, h3, h4, h5⟩ := h.live i x hi
      exact ⟨p, ob, hx.φ _ _ h1, h2, h3, hold _ _ h4, h5.mono hx.knows⟩
  · intro i j x y p q hi hj hpi hqj hpq
    simp only [AHeap.push] at hi hj
    simp only [Env.put] at hpi hqj
    split at hi <;> split at hj
    · omega
    · rename_i h1 h2
      rw [if_pos h1] at hpi; rw [if_neg h2] at hqj
      simp at hpi; subst hpi
      obtain ⟨q', ob, g1, _, _, g4, _⟩ := h.live j y hj
      rw [g1] at hqj; simp at hqj; subst hqj
      have := hsz _ _ g4
      simp at hpq; omega
    · rename_i h1 h2
      rw [if_neg h1] at hpi; rw [if_pos h2] at hqj
      simp at hqj; subst hqj
      obtain ⟨q', ob, g1, _, _, g4, _⟩ := h.live i x hi
      rw [g1] at hpi; simp at hpi; subst hpi
      have := hsz _ _ g4
      simp at hpq; omega
    · rename_i h1 h2
      rw [if_neg h1] at hpi; rw [if_neg h2] at hqj
      exact h.inj i j x y p q hi hj hpi hqj hpq

/-- Whatever is forgotten of the abstract heap. -/
theorem Rel.sub {E : Env} {H H' : AHeap} {w : World} (h : Rel E H w) (hn : H.next ≤ H'.next) (hs : ∀ i x, H'.get i = some x → H.get i = some x) : Rel E H' w :=
  ⟨h.os, h.out, h.K, h.F, h.KF, fun i p hp => Nat.lt_of_lt_of_le (h.dom i p hp) hn, fun i x hi => h.live i x (hs i x hi), fun i j x y p q hi hj => h.inj i j x y p q (hs i x hi) (hs j y hj)⟩

theorem Rel.kill {E : Env} {H : AHeap} {w : World} (h : Rel E H w) (i : Nat) : Rel E (H.kill i) w :=
  h.sub (Nat.le_refl _) fun j x hj => by
    simp only [AHeap.kill] at hj
    split at hj
    · simp at hj
    · exact hj

/-- A live block, its element type. -/
theorem Rel.elem {E : Env} {H : AHeap} {w : World} (h : Rel E H w) {i : Nat} {x : AObj} (hi : H.get i = some x) {p : Place} (hp : E.φ i = some p) (hx : ∀ es, x ≠ .map es) : ∃ c fz, w.heap[p.b]? = some (.cells c p.e fz) ∧ c.size = p.n ∧ Unfr fz p.n := by
  obtain ⟨q, ob, h1, _, _, h4, h5⟩ := h.live i x hi
  rw [hp] at h1; cases h1
  have h6 := h5.flat
  cases x <;> first | exact absurd rfl (hx _) | (obtain ⟨c, e, fz, vs, rfl, k2, _, _, k5, rfl⟩ := h6; exact ⟨c, fz, h4, k2, k5⟩)

/-- The heap whose blocks' element types are forgotten. -/
def AHeap.flat (H : AHeap) : AHeap := { next := H.next, get := fun i => (H.get i).map AObj.flat }

theorem Rel.flat {E : Env} {H : AHeap} {w : World} (h : Rel E H w) : Rel E H.flat w := by
  refine ⟨h.os, h.out, h.K, h.F, h.KF, h.dom, fun i x hi => ?_, fun i j x y p q hi hj => ?_⟩
  · simp only [AHeap.flat, Option.map_eq_some_iff] at hi
    obtain ⟨y, hy, rfl⟩ := hi
    obtain ⟨p, ob, g1, g2, g3, g4, g5⟩ := h.live i y hy
    exact ⟨p, ob, g1, g2, g3, g4, g5.flat⟩
  · simp only [AHeap.flat, Option.map_eq_some_iff] at hi hj
    obtain ⟨x', hi, _⟩ := hi
    obtain ⟨y', hj, _⟩ := hj
    exact h.inj i j x' y' p q hi hj

end Go.Abs

/-
  A simplified meaning for Go code, second part: the model's primitive steps (a load, a store, a new block, a block that is frozen, blocks forgotten) under the relation.
-/

namespace Go.Abs
open Go

theorem heap_setCell (w : World) (B j : Nat) (v : Value) {c : Array Value} {e : TypeId} {fz : Nat × Nat} (hb : w.heap[B]? = some (.cells c e fz)) :
    (w.setCell ⟨B, j, none⟩ v).heap[B]? = some (.cells (c.setIfInBounds j v) e fz) := by
  simp only [World.setCell, Array.getElem?_modify]
  simp [hb]

theorem heap_setCell_ne (w : World) (B j C : Nat) (v : Value) (h : C ≠ B) : (w.setCell ⟨B, j, none⟩ v).heap[C]? = w.heap[C]? := by
  simp only [World.setCell, Array.getElem?_modify]
  rw [if_neg (fun e => h e.symm)]

theorem cell?_of {w : World} {B j : Nat} {c : Array Value} {e : TypeId} {fz : Nat × Nat} (hb : w.heap[B]? = some (.cells c e fz)) : w.cell? ⟨B, j, none⟩ = c[j]? := by
  simp [World.cell?, hb]

theorem frozen?_of {w : World} {B j : Nat} {c : Array Value} {e : TypeId} {fz : Nat × Nat} (hb : w.heap[B]? = some (.cells c e fz)) (h : ¬ (fz.1 ≤ j ∧ j < fz.2)) : w.frozen? ⟨B, j, none⟩ = false := by
  have hh : fz.1 ≤ j → fz.2 ≤ j := fun a => Nat.le_of_not_lt fun b => h ⟨a, b⟩
  obtain ⟨lo, hi⟩ := fz
  simpa [World.frozen?, hb] using hh

theorem prefix_get? {α : Type} {vs l : List α} (h : vs <+: l) {j : Nat} {v : α} (hv : vs[j]? = some v) : l[j]? = some v := by
  obtain ⟨t, rfl⟩ := h
  have : j < vs.length := by
    rcases Nat.lt_or_ge j vs.length with q | q
    · exact q
    · rw [List.getElem?_eq_none q] at hv; simp at hv
  rw [List.getElem?_append_left this]; exact hv

theorem prefix_set {α : Type} {vs l : List α} (h : vs <+: l) {j : Nat} (v : α) (hj : j < vs.length) : vs.set j v <+: l.set j v := by
  obtain ⟨t, rfl⟩ := h
  rw [List.set_append_left _ _ hj]
  exact List.prefix_append _ _

theorem prefix_take_drop {α : Type} {vs l : List α} (h : vs <+: l) (o : Nat) : vs.drop o <+: l.drop o := by
  obtain ⟨t, rfl⟩ := h
  by_cases ho : o ≤ vs.length
  · rw [List.drop_append_of_le_length ho]; exact List.prefix_append _ _
  · rw [List.drop_eq_nil_of_le (by omega)]; exact List.nil_prefix

/-- The cells of a live block, in the model. -/
theorem Rel.cellsOf' {E : Env} {H : AHeap} {w : World} (h : Rel E H w) {i : Nat} {cs : List AV} (hi : H.get i = some (.cells cs)) {p : Place} (hp : E.φ i = some p) :
    ∃ c fz vs, w.heap[p.b]? = some (.cells c p.e fz) ∧ c.size = p.n ∧ VRels E cs vs ∧ vs <+: c.toList.drop p.s ∧ Unfr fz p.n ∧ E.K p.b = none ∧ E.F p.b = none := by
  obtain ⟨q, ob, h1, h2, h3, h4, c, e, fz, vs, rfl, g1, g2, g3, g4, rfl⟩ := h.live i _ hi
  rw [hp] at h1; cases h1
  exact ⟨c, fz, vs, h4, g1, g2, g3, g4, h2, h3⟩
theorem Rel.cellsOf {E : Env} {H : AHeap} {w : World} (h : Rel E H w) {i : Nat} {cs : List AV} (hi : H.get i = some (.cells cs)) {p : Place} (hp : E.φ i = some p) :
    ∃ c e fz vs, w.heap[p.b]? = some (.cells c e fz) ∧ c.size = p.n ∧ VRels E cs vs ∧ vs <+: c.toList.drop p.s ∧ Unfr fz p.n ∧ E.K p.b = none ∧ E.F p.b = none := by
  obtain ⟨c, fz, vs, g⟩ := h.cellsOf' hi hp
  exact ⟨c, p.e, fz, vs, g⟩

theorem Rel.place {E : Env} {H : AHeap} {w : World} (h : Rel E H w) {i : Nat} {x : AObj} (hi : H.get i = some x) : ∃ p, E.φ i = some p := by
  obtain ⟨p, _, hp, _⟩ := h.live i _ hi
  exact ⟨p, hp⟩

/-- One cell of a live block, read. -/
theorem Rel.cell {E : Env} {H : AHeap} {w : World} (h : Rel E H w) {i : Nat} {cs : List AV} (hi : H.get i = some (.cells cs)) {p : Place} (hp : E.φ i = some p) {o : Nat} {a : AV} (ho : cs[o]? = some a) :
    ∃ v, w.cell? ⟨p.b, p.s + o, none⟩ = some v ∧ VRel E a v := by
  obtain ⟨c, e, fz, vs, h1, h2, h3, h4, _⟩ := h.cellsOf hi hp
  obtain ⟨v, hv, hr⟩ := h3.get? ho
  refine ⟨v, ?_, hr⟩
  rw [cell?_of h1]
  have := prefix_get? h4 hv
  rw [List.getElem?_drop] at this
  simpa using this

def splice (cs : List AV) (o : Nat) (as_ : List AV) : List AV := cs.take o ++ (as_ ++ cs.drop (o + as_.length))

theorem splice_nil (cs : List AV) (o : Nat) : splice cs o [] = cs := by simp [splice]

theorem splice_cons (cs : List AV) (o : Nat) (a : AV) (as_ : List AV) (h : o < cs.length) : splice cs o (a :: as_) = splice (cs.set o a) (o + 1) as_ := by
  unfold splice
  apply List.ext_getElem?
  intro j
  simp only [List.getElem?_append, List.length_take, List.length_set, List.length_cons, List.cons_append]
  have hm : min o cs.length = o := by omega
  have hm' : min (o + 1) cs.length = o + 1 := by omega
  rw [hm, hm']
  by_cases h1 : j < o
  · rw [if_pos h1, if_pos (by omega)]
    rw [List.getElem?_take_of_lt h1, List.getElem?_take_of_lt (by omega), List.getElem?_set_ne (by omega)]
  · rw [if_neg h1]
    by_cases h2 : j = o
    · subst h2
      rw [if_pos (by omega), List.getElem?_take_of_lt (by omega)]
      simp [h]
    · rw [if_neg (by omega)]
      obtain ⟨k, rfl⟩ : ∃ k, j = o + 1 + k := ⟨j - (o + 1), by omega⟩
      rw [show o + 1 + k - o = k + 1 by omega, show o + 1 + k - (o + 1) = k by omega]
      simp only [List.getElem?_cons_succ, List.getElem?_append]
      split
      · rfl
      · rw [List.getElem?_drop, List.getElem?_drop, List.getElem?_set_ne (by omega)]
        congr 1; omega

theorem splice_length (cs : List AV) (o : Nat) (as_ : List AV) (h : o + as_.length ≤ cs.length) : (splice cs o as_).length = cs.length := by
  simp [splice]; omega

/-- One cell of a live block, written. -/
theorem Rel.write {E : Env} {H : AHeap} {w : World} (h : Rel E H w) {i : Nat} {cs : List AV} (hi : H.get i = some (.cells cs)) {p : Place} (hp : E.φ i = some p) {o : Nat} (ho : o < cs.length)
    {a : AV} {v : Value} (hv : VRel E a v) (hs : a.scalar = true) (P : Program) :
    (store ⟨p.b, p.s + o, none⟩ v).run P w = .ok () (w.setCell ⟨p.b, p.s + o, none⟩ v) ∧ Rel E (H.set i (.cells (cs.set o a))) (w.setCell ⟨p.b, p.s + o, none⟩ v) := by
  obtain ⟨c, fz, vs, h1, h2, h3, h4, h5, h6, h7⟩ := h.cellsOf' hi hp
  have hl := h3.length
  have hpl := h4.length_le
  simp only [List.length_drop, Array.length_toList] at hpl
  have hfr : w.frozen? ⟨p.b, p.s + o, none⟩ = false := frozen?_of h1 (h5.out _ (by omega))
  have hc : ∃ u, w.cell? ⟨p.b, p.s + o, none⟩ = some u := by
    rw [cell?_of h1]; exact ⟨c[p.s + o]'(by omega), Array.getElem?_eq_getElem (by omega)⟩
  constructor
  · obtain ⟨u, hu⟩ := hc
    rw [run_store P w _ v _ (hv.oneCell hs)]
    simp [hu, hfr]
  · have hne : ∀ B o', w.heap[B]? = some o' → B ≠ p.b → (w.setCell ⟨p.b, p.s + o, none⟩ v).heap[B]? = some o' := fun B o' hb hB => by rw [heap_setCell_ne _ _ _ _ _ hB]; exact hb
    refine ⟨h.os, h.out, fun B o' hb => hne B o' (h.K B o' hb) (fun e => by subst e; rw [h6] at hb; simp at hb), fun B o' hb => hne B o' (h.F B o' hb) (fun e => by subst e; rw [h7] at hb; simp at hb), h.KF, h.dom, ?_, ?_⟩
    · intro j x hj
      simp only [AHeap.set] at hj
      split at hj
      · rename_i hji; subst hji
        simp at hj; subst hj
        refine ⟨p, _, hp, h6, h7, heap_setCell _ _ _ _ h1, _, p.e, fz, vs.set o v, rfl, by simpa using h2, h3.set o hv, ?_, h5, rfl⟩
        have e1 : (c.setIfInBounds (p.s + o) v).toList.drop p.s = (c.toList.drop p.s).set o v := by
          rw [Array.toList_setIfInBounds, List.drop_set, if_neg (by omega)]
          congr 1; omega
        rw [e1]
        exact prefix_set h4 v (by omega)
      · rename_i hji
        obtain ⟨q, ob, g1, g2, g3, g4, g5⟩ := h.live j x hj
        refine ⟨q, ob, g1, g2, g3, hne _ _ g4 (fun e => hji ?_), g5⟩
        exact h.inj j i x _ q p hj hi g1 hp e
    · intro a' b' x y q r hx hy
      have tr : ∀ k z, (H.set i (.cells (cs.set o a))).get k = some z → ∃ z', H.get k = some z' := fun k z hk => by
        simp only [AHeap.set] at hk
        split at hk
        · rename_i e; subst e; exact ⟨_, hi⟩
        · exact ⟨z, hk⟩
      obtain ⟨x', hx'⟩ := tr _ _ hx
      obtain ⟨y', hy'⟩ := tr _ _ hy
      exact h.inj a' b' x' y' q r hx' hy'

theorem AHeap.set_set (H : AHeap) (i : Nat) (x y : AObj) : (H.set i x).set i y = H.set i y := by
  simp only [AHeap.set]
  congr 1
  funext j
  split <;> rfl

theorem AHeap.set_self (H : AHeap) (i : Nat) (x : AObj) (h : H.get i = some x) : H.set i x = H := by
  cases H with
  | mk n g =>
    simp only [AHeap.set]
    congr 1
    funext j
    split
    · rename_i e; subst e; exact h.symm
    · rfl

@[simp] theorem AHeap.get_set_same (H : AHeap) (i : Nat) (x : AObj) : (H.set i x).get i = some x := by simp [AHeap.set]

theorem Addr.add_mk (B s n : Nat) : (Addr.add ⟨B, s, none⟩ n) = ⟨B, s + n, none⟩ := by
  unfold Addr.add
  split
  · rename_i e; subst e; rfl
  · rfl

/-- Cells written one behind the other. -/
theorem Rel.writes {E : Env} (P : Program) (i : Nat) {p : Place} (hp : E.φ i = some p) : ∀ (as_ : List AV) (vs : List Value) (cs : List AV) (H : AHeap) (w : World) (o k : Nat),
    Rel E H w → H.get i = some (.cells cs) → VRels E as_ vs → (∀ a ∈ as_, a.scalar = true) → o + k + as_.length ≤ cs.length →
    ∃ w', (storeCells ⟨p.b, p.s + o, none⟩ vs k).run P w = .ok () w' ∧ Rel E (H.set i (.cells (splice cs (o + k) as_))) w' := by
  intro as_
  induction as_ with
  | nil =>
    intro vs cs H w o k h hi hv _ _
    cases hv
    refine ⟨w, by simp [storeCells], ?_⟩
    rw [splice_nil, AHeap.set_self _ _ _ hi]; exact h
  | cons a as_ ih =>
    intro vs cs H w o k h hi hv hs hl
    cases hv with
    | cons hv ht =>
      rename_i v vs
      simp only [List.length_cons] at hl
      have hlt : o + k < cs.length := by omega
      have hw := h.write hi hp (o := o + k) hlt hv (hs a (by simp)) P
      obtain ⟨w', g1, g2⟩ := ih vs (cs.set (o + k) a) (H.set i (.cells (cs.set (o + k) a))) _ o (k + 1) hw.2 (by simp) ht (fun b hb => hs b (by simp [hb])) (by simp; omega)
      refine ⟨w', ?_, ?_⟩
      · simp only [storeCells, Sem.run_bind, Addr.add_mk]
        rw [show p.s + o + k = p.s + (o + k) by omega, hw.1]
        simpa using g1
      · rw [AHeap.set_set] at g2
        rw [splice_cons _ _ _ _ hlt]
        exact g2

/-- Cells of a live block, read one behind the other. -/
theorem Rel.reads {E : Env} {H : AHeap} {w : World} (h : Rel E H w) (P : Program) {i : Nat} {cs : List AV} (hi : H.get i = some (.cells cs)) {p : Place} (hp : E.φ i = some p) (o n : Nat) (hl : o + n ≤ cs.length) :
    ∃ vs, (loadCells ⟨p.b, p.s + o, none⟩ n).run P w = .ok vs.toArray w ∧ VRels E ((cs.drop o).take n) vs := by
  obtain ⟨c, e, fz, us, h1, h2, h3, h4, _⟩ := h.cellsOf hi hp
  have hul := h3.length
  refine ⟨(us.drop o).take n, ?_, (h3.drop o).take n⟩
  have hlen : ((us.drop o).take n).length = n := by simp; omega
  have := run_loadCells_list (P := P) w ⟨p.b, p.s + o, none⟩ ((us.drop o).take n) (fun j v hj => by
    rw [Addr.add_mk, cell?_of h1]
    have hjn : j < n := by
      rcases Nat.lt_or_ge j n with q | q
      · exact q
      · rw [List.getElem?_take_eq_none q] at hj; simp at hj
    rw [List.getElem?_take_of_lt hjn, List.getElem?_drop] at hj
    have := prefix_get? h4 hj
    rw [List.getElem?_drop] at this
    rw [show p.s + o + j = p.s + (o + j) by omega]
    simpa using this)
  rw [hlen] at this
  exact this

/-- Cells of frozen memory, read one behind the other. -/
theorem InK.reads {E : Env} {H : AHeap} {w : World} (h : Rel E H w) (P : Program) {B o : Nat} {us : List Value} (hk : InK E B o us) (n : Nat) (hl : n ≤ us.length) :
    (loadCells ⟨B, o, none⟩ n).run P w = .ok (us.take n).toArray w := by
  rcases hk with hk | ⟨c, e, f, hk, hp⟩
  · subst hk
    simp at hl; subst hl
    simp [loadCells, loadCellsFrom]
  · have h1 := h.K _ _ hk
    have hlen : (us.take n).length = n := by simp; omega
    have := run_loadCells_list (P := P) w ⟨B, o, none⟩ (us.take n) (fun j v hj => by
      rw [Addr.add_mk, cell?_of h1]
      have hjn : j < n := by
        rcases Nat.lt_or_ge j n with q | q
        · exact q
        · rw [List.getElem?_take_eq_none q] at hj; simp at hj
      rw [List.getElem?_take_of_lt hjn] at hj
      have := prefix_get? hp hj
      rw [List.getElem?_drop] at this
      simpa using this)
    rw [hlen] at this
    exact this

theorem InK.read1 {E : Env} {H : AHeap} {w : World} (h : Rel E H w) {B o : Nat} {us : List Value} (hk : InK E B o us) {v : Value} (hv : us[0]? = some v) : w.cell? ⟨B, o, none⟩ = some v := by
  rcases hk with hk | ⟨c, e, f, hk, hp⟩
  · subst hk; simp at hv
  · rw [cell?_of (h.K _ _ hk)]
    have := prefix_get? hp hv
    rw [List.getElem?_drop] at this
    simpa using this

/-- A live block becomes frozen memory. -/
theorem Rel.freeze {E : Env} {H : AHeap} {w : World} (h : Rel E H w) {i : Nat} {cs : List AV} (hi : H.get i = some (.cells cs)) {p : Place} (hp : E.φ i = some p) :
    ∃ E', Ext E E' ∧ Rel E' (H.kill i) w ∧ ∀ o, ∃ vs, InK E' p.b (p.s + o) vs ∧ VRels E' (cs.drop o) vs := by
  obtain ⟨c, e, fz, us, h1, h2, h3, h4, h5, h6, h7⟩ := h.cellsOf hi hp
  have hx : Ext E (E.freeze p.b (.cells c e fz)) := by
    refine ⟨fun _ _ h => h, fun B o hb => ?_, rfl, rfl, rfl⟩
    simp only [Env.freeze]
    split
    · rename_i e; subst e; rw [h6] at hb; simp at hb
    · exact hb
  refine ⟨E.freeze p.b (.cells c e fz), hx, ?_, ?_⟩
  · refine ⟨h.os, h.out, ?_, h.F, ?_, h.dom, ?_, ?_⟩
    · intro B o hb
      simp only [Env.freeze] at hb
      split at hb
      · rename_i e; subst e; simp at hb; subst hb; exact h1
      · exact h.K B o hb
    · intro B
      simp only [Env.freeze]
      split
      · rename_i e; subst e; exact .inr h7
      · exact h.KF B
    · intro j x hj
      simp only [AHeap.kill] at hj
      split at hj
      · simp at hj
      · rename_i hji
        obtain ⟨q, ob, g1, g2, g3, g4, g5⟩ := h.live j x hj
        refine ⟨q, ob, g1, ?_, g3, g4, g5.mono hx.knows⟩
        simp only [Env.freeze]
        split
        · rename_i e; exact absurd (h.inj j i x _ q p hj hi g1 hp e) hji
        · exact g2
    · intro a b x y q r hx hy
      simp only [AHeap.kill] at hx hy
      split at hx <;> split at hy <;> first | (simp at hx; done) | (simp at hy; done) | exact h.inj a b x y q r hx hy
  · intro o
    refine ⟨us.drop o, .inr ⟨c, e, fz, by simp [Env.freeze], ?_⟩, (h3.mono hx.knows).drop o⟩
    have := prefix_take_drop h4 o
    rwa [List.drop_drop] at this

/-- A value's, a list's ids lie below n. -/
def AObj.cellsList : AObj → List AV
  | .cells cs => cs
  | .row _ cs => cs
  | .map es => es.map Prod.fst ++ es.map Prod.snd

mutual
def AV.idLt (n : Nat) : AV → Bool
  | .ptr i _ => decide (i < n)
  | .sl i _ _ _ _ _ => decide (i < n)
  | .map i => decide (i < n)
  | .vptr cs => AV.allLt n cs
  | .vsl cs _ => AV.allLt n cs
  | .func _ f c => AV.allLt n f && AV.allLt n c
  | .iface _ v => AV.idLt n v
  | .agg cs => AV.allLt n cs
  | .tuple cs => AV.allLt n cs
  | .csl cs _ => AV.allLt n cs
  | _ => true
def AV.allLt (n : Nat) : List AV → Bool
  | [] => true
  | a :: as_ => AV.idLt n a && AV.allLt n as_
end

/-- The places of ids below n alone. -/
def Env.cut (E : Env) (n : Nat) : Env := { E with φ := fun j => if j < n then E.φ j else none }

mutual
theorem VRel.cut {E : Env} {n : Nat} : ∀ {a : AV} {v : Value}, VRel E a v → a.idLt n = true → VRel (E.cut n) a v
  | _, _, .bool b, _ => .bool b
  | _, _, .int k n, _ => .int k n
  | _, _, .str s, _ => .str s
  | _, _, .nilptr, _ => .nilptr
  | _, _, .ptr h, hb => .ptr (by simp [AV.idLt] at hb; simp [Env.cut, hb, h])
  | _, _, .vptr hK hv, hb => .vptr hK (VRels.cut hv (by simpa [AV.idLt] using hb))
  | _, _, .nilsl, _ => .nilsl
  | _, _, .sl h hl hc ho hn, hb => .sl (by simp [AV.idLt] at hb; simp [Env.cut, hb, h]) hl hc ho hn
  | _, _, .vsl hK hv hl, hb => .vsl hK (VRels.cut hv (by simpa [AV.idLt] using hb)) hl
  | _, _, .vsl0, _ => .vsl0
  | _, _, .nilmap, _ => .nilmap
  | _, _, .map h, hb => .map (by simp [AV.idLt] at hb; simp [Env.cut, hb, h])
  | _, _, .func hf hc, hb => .func (VRels.cut hf (by simp [AV.idLt] at hb; exact hb.1)) (VRels.cut hc (by simp [AV.idLt] at hb; exact hb.2))
  | _, _, .nilfunc, _ => .nilfunc
  | _, _, .iface h, hb => .iface (VRel.cut h (by simpa [AV.idLt] using hb))
  | _, _, .niliface, _ => .niliface
  | _, _, .agg h, hb => .agg (VRels.cut h (by simpa [AV.idLt] using hb))
  | _, _, .tuple h, hb => .tuple (VRels.cut h (by simpa [AV.idLt] using hb))
  | _, _, .csl hK hv, hb => .csl hK (VRels.cut hv (by simpa [AV.idLt] using hb))
theorem VRels.cut {E : Env} {n : Nat} : ∀ {as_ : List AV} {vs : List Value}, VRels E as_ vs → AV.allLt n as_ = true → VRels (E.cut n) as_ vs
  | _, _, .nil, _ => .nil
  | _, _, .cons h t, hb => .cons (VRel.cut h (by simp [AV.allLt] at hb; exact hb.1)) (VRels.cut t (by simp [AV.allLt] at hb; exact hb.2))
end

theorem AV.allLt_append {n : Nat} : ∀ (as_ bs : List AV), AV.allLt n (as_ ++ bs) = (AV.allLt n as_ && AV.allLt n bs)
  | [], bs => by simp [AV.allLt]
  | a :: as_, bs => by simp [AV.allLt, AV.allLt_append as_ bs, Bool.and_assoc]

/-- Behind a call whatever it laid of its own is forgotten, ids and all. -/
theorem Rel.gc {E : Env} {H H' : AHeap} {w : World} (h : Rel E H w) (hs : ∀ i x, H'.get i = some x → H.get i = some x ∧ i < H'.next ∧ AV.allLt H'.next x.cellsList = true) : Rel (E.cut H'.next) H' w := by
  refine ⟨h.os, h.out, h.K, h.F, h.KF, ?_, ?_, ?_⟩
  · intro i p hp
    simp only [Env.cut] at hp
    split at hp
    · assumption
    · simp at hp
  · intro i x hi
    obtain ⟨h1, h2, h3⟩ := hs i x hi
    obtain ⟨p, ob, g1, g2, g3, g4, g5⟩ := h.live i x h1
    refine ⟨p, ob, by simp [Env.cut, h2, g1], g2, g3, g4, ?_⟩
    cases x with
    | cells cs =>
      obtain ⟨c, e, fz, vs, k1, k2, k3, k4, k5⟩ := g5
      exact ⟨c, e, fz, vs, k1, k2, k3.cut (by simpa [AObj.cellsList] using h3), k4, k5⟩
    | row t cs =>
      obtain ⟨⟨c, e, fz, vs, k1, k2, k3, k4, k5⟩, k6⟩ := g5
      exact ⟨⟨c, e, fz, vs, k1, k2, k3.cut (by simpa [AObj.cellsList] using h3), k4, k5⟩, k6⟩
    | map es =>
      obtain ⟨ents, clk, k1, k2, k3⟩ := g5
      rw [AObj.cellsList, AV.allLt_append, Bool.and_eq_true] at h3
      exact ⟨ents, clk, k1, k2.cut h3.1, k3.cut h3.2⟩
  · intro i j x y p q hi hj hp hq
    simp only [Env.cut] at hp hq
    split at hp <;> split at hq <;> first | (simp at hp; done) | (simp at hq; done) | skip
    exact h.inj i j x y p q (hs i x hi).1 (hs j y hj).1 hp hq

theorem Env.cut_ext {E E' : Env} {n : Nat} (x : Ext E E') (hd : ∀ i p, E.φ i = some p → i < n) : Ext E (E'.cut n) :=
  ⟨fun i p hp => by simp [Env.cut, hd i p hp, x.φ i p hp], x.K, x.F, x.os, x.out⟩

end Go.Abs

/-
  A simplified meaning for Go code, third part: the operations that look at no memory.
-/





namespace Go.Abs
open Go

theorem run_sizeOf' {P : Program} {t : TypeId} {i : TypeInfo} (h : P.info? t = some i) (w : World) : (sizeOf t).run P w = .ok i.size w := by
  simp [sizeOf, typeInfo, h]
theorem run_zero' {P : Program} {t : TypeId} {i : TypeInfo} {z : Value} (h : P.info? t = some i) (hz : i.zero = some z) (w : World) : (zeroValue t).run P w = .ok z w := by
  simp [zeroValue, typeInfo, h, hz]
theorem run_isAgg' {P : Program} {t : TypeId} {d : TypeDesc} (h : P.underlying t = some d) (w : World) :
    (isAgg t).run P w = .ok (match d with | .struct _ | .array _ _ => true | _ => false) w := by
  simp only [isAgg, Sem.run_bind, run_underlying h, Result.andThen_ok]
  cases d <;> rfl

def asize (P : Program) (t : TypeId) : Option Nat := (P.info? t).map (·.size)
def aagg (P : Program) (t : TypeId) : Option Bool := (P.underlying t).map fun | .struct _ | .array _ _ => true | _ => false

theorem run_asize {P : Program} {t : TypeId} {n : Nat} (h : asize P t = some n) (w : World) : (sizeOf t).run P w = .ok n w := by
  simp only [asize, Option.map_eq_some_iff] at h
  obtain ⟨i, hi, rfl⟩ := h
  exact run_sizeOf' hi w
theorem run_aagg {P : Program} {t : TypeId} {b : Bool} (h : aagg P t = some b) (w : World) : (isAgg t).run P w = .ok b w := by
  simp only [aagg, Option.map_eq_some_iff] at h
  obtain ⟨d, hd, rfl⟩ := h
  rw [run_isAgg' hd]
  cases d <;> rfl

def ofConst1 : Value → Option AV
  | .bool b => some (.bool b)
  | .int k n => some (.int k n)
  | .string s => some (.str s.data.toList)
  | .pointer none => some .nilptr
  | .slice none 0 0 => some .nilsl
  | .map none => some .nilmap
  | .nilFunc => some .nilfunc
  | .nilIface => some .niliface
  | _ => none

def ofConsts : List Value → Option (List AV)
  | [] => some []
  | v :: vs => match ofConst1 v, ofConsts vs with
    | some a, some as_ => some (a :: as_)
    | _, _ => none

def ofConst : Value → Option AV
  | .agg cs => (ofConsts cs.toList).map .agg
  | .tuple cs => (ofConsts cs.toList).map .tuple
  | v => ofConst1 v

theorem ofConst1_rel (E : Env) {v : Value} {a : AV} (h : ofConst1 v = some a) : VRel E a v := by
  unfold ofConst1 at h
  split at h <;> first
    | (simp at h; done)
    | (simp at h; subst h; constructor; done)

theorem ofConsts_rel (E : Env) : ∀ {vs : List Value} {as_ : List AV}, ofConsts vs = some as_ → VRels E as_ vs
  | [], as_, h => by simp [ofConsts] at h; subst h; exact .nil
  | v :: vs, as_, h => by
    simp only [ofConsts] at h
    split at h
    · rename_i a as' h1 h2
      simp at h; subst h
      exact .cons (ofConst1_rel E h1) (ofConsts_rel E h2)
    · simp at h

theorem ofConst_rel (E : Env) {v : Value} {a : AV} (h : ofConst v = some a) : VRel E a v := by
  unfold ofConst at h
  split at h
  · simp only [Option.map_eq_some_iff] at h; obtain ⟨as_, h1, rfl⟩ := h; exact .agg (ofConsts_rel E h1)
  · simp only [Option.map_eq_some_iff] at h; obtain ⟨as_, h1, rfl⟩ := h; exact .tuple (ofConsts_rel E h1)
  · exact ofConst1_rel E h

def azero (P : Program) (t : TypeId) : Option AV := match P.info? t with
  | some i => match i.zero with
    | some z => ofConst z
    | none => none
  | none => none

theorem run_azero {P : Program} {t : TypeId} {a : AV} (E : Env) (h : azero P t = some a) : ∃ z, VRel E a z ∧ ∀ w, (zeroValue t).run P w = .ok z w := by
  unfold azero at h
  split at h
  · rename_i i hi
    split at h
    · rename_i z hz
      exact ⟨z, ofConst_rel E h, fun w => run_zero' hi hz w⟩
    · simp at h
  · simp at h

/-! ### integers -/

def aint2 (op : BinOp) (k : IntKind) (a b : Int) : Option AV := match op with
  | .add => some (.int k (k.wrap (a + b)))
  | .sub => some (.int k (k.wrap (a - b)))
  | .mul => some (.int k (k.wrap (a * b)))
  | .quo => if b = 0 then none else some (.int k (k.wrap (a.tdiv b)))
  | .rem => if b = 0 then none else some (.int k (a.tmod b))
  | .and => some (.int k (k.wrap ((BitVec.ofInt k.bits a &&& BitVec.ofInt k.bits b).toNat : Nat)))
  | .or => some (.int k (k.wrap ((BitVec.ofInt k.bits a ||| BitVec.ofInt k.bits b).toNat : Nat)))
  | .xor => some (.int k (k.wrap ((BitVec.ofInt k.bits a ^^^ BitVec.ofInt k.bits b).toNat : Nat)))
  | .andNot => some (.int k (k.wrap ((BitVec.ofInt k.bits a &&& ~~~ BitVec.ofInt k.bits b).toNat : Nat)))
  | .eql => some (.bool (a == b))
  | .neq => some (.bool (a != b))
  | .lss => some (.bool (decide (a < b)))
  | .leq => some (.bool (decide (a ≤ b)))
  | .gtr => some (.bool (decide (a > b)))
  | .geq => some (.bool (decide (a ≥ b)))
  | _ => none

def ashift (op : BinOp) (k : IntKind) (a b : Int) : Option AV :=
  if b < 0 then none else match op with
  | .shl => some (.int k (k.wrap (a * 2 ^ (min b.toNat k.bits))))
  | .shr => some (.int k (a.fdiv (2 ^ (min b.toNat k.bits))))
  | _ => none

theorem aint2_sound {P : Program} {E : Env} {op : BinOp} {k : IntKind} {a b : Int} {r : AV} (t : TypeId) (h : aint2 op k a b = some r) :
    ∃ v, VRel E r v ∧ ∀ w, (binOp op t (.int k a) (.int k b)).run P w = .ok v w := by
  cases op <;> simp only [aint2] at h <;> first
    | (simp at h; done)
    | (split at h
       · simp at h
       · rename_i hb
         simp only [Option.some.injEq] at h; subst h
         first
           | exact ⟨_, .int _ _, fun w => by simp [binOp_quo, Op.intDiv, hb]⟩
           | exact ⟨_, .int _ _, fun w => by simp [binOp_rem, Op.intDiv, hb]⟩)
    | (simp only [Option.some.injEq] at h; subst h
       first
         | exact ⟨_, .int _ _, fun w => by simp [binOp, Op.intArith, Op.intBits]; done⟩
         | exact ⟨_, .bool _, fun w => by simp [binOp, Op.intCmp]; done⟩)

theorem ashift_sound {P : Program} {E : Env} {op : BinOp} {k k' : IntKind} {a b : Int} {r : AV} (t : TypeId) (h : ashift op k a b = some r) :
    ∃ v, VRel E r v ∧ ∀ w, (binOp op t (.int k a) (.int k' b)).run P w = .ok v w := by
  unfold ashift at h
  split at h
  · simp at h
  · rename_i hb
    split at h <;> simp only [Option.some.injEq, reduceCtorEq] at h <;> subst h
    · exact ⟨_, .int _ _, fun w => by simp [binOp, Op.shift, hb]⟩
    · exact ⟨_, .int _ _, fun w => by simp [binOp, Op.shift, hb]⟩

/-! ### strings -/

def astr2 (op : BinOp) (a b : List UInt8) : Option AV := match op with
  | .add => if a.length + b.length ≤ 9223372036854775807 then some (.str (a ++ b)) else none
  | .eql => some (.bool (a == b))
  | .neq => some (.bool (!(a == b)))
  | .lss => some (.bool (Op.bytesLess a b))
  | .leq => some (.bool (Op.bytesLess a b || a == b))
  | .gtr => some (.bool (!(Op.bytesLess a b || a == b)))
  | .geq => some (.bool (!(Op.bytesLess a b)))
  | _ => none

theorem bytes_append (a b : List UInt8) : (ByteArray.mk a.toArray ++ ByteArray.mk b.toArray) = ByteArray.mk (a ++ b).toArray := by
  have h : ∀ x y : ByteArray, (x ++ y).data = x.data ++ y.data := fun x y => by simp
  have := h ⟨a.toArray⟩ ⟨b.toArray⟩
  cases hh : (ByteArray.mk a.toArray ++ ByteArray.mk b.toArray) with
  | mk d => rw [hh] at this; simp at this; subst this; simp

theorem astr2_sound {P : Program} {E : Env} {op : BinOp} {a b : List UInt8} {r : AV} (t : TypeId) (h : astr2 op a b = some r) :
    ∃ v, VRel E r v ∧ ∀ w, (binOp op t (.string ⟨a.toArray⟩) (.string ⟨b.toArray⟩)).run P w = .ok v w := by
  cases op <;> simp only [astr2] at h <;> first
    | (simp at h; done)
    | (split at h
       · rename_i hb
         simp only [Option.some.injEq] at h; subst h
         refine ⟨_, .str _, fun w => ?_⟩
         have hs : ∀ l : List UInt8, (ByteArray.mk l.toArray).size = l.length := fun l => by simp [ByteArray.size]
         simp only [binOp, Op.stringOp, hs]
         rw [if_neg (by rw [IntKind.max_i64]; omega)]
         simp only [Sem.run_pure, bytes_append]
       · simp at h)
    | (simp only [Option.some.injEq] at h; subst h
       exact ⟨_, .bool _, fun w => by simp [binOp, Op.stringOp, ByteArray.toList_mk]⟩)

/-! ### equality -/

def apart' (P : Program) (t : TypeId) (cs : List AV) (off : Nat) : Option AV :=
  match aagg P t, asize P t with
  | some true, some n => some (.agg ((cs.drop off).take n))
  | some false, some _ => cs[off]?
  | _, _ => none

theorem apart'_sound {P : Program} {E : Env} {t : TypeId} {cs : List AV} {vs : Array Value} {off : Nat} {r : AV} (h : apart' P t cs off = some r) (hv : VRels E cs vs.toList) :
    ∃ v, VRel E r v ∧ ∀ w, (part t vs off).run P w = .ok v w := by
  unfold apart' at h
  split at h
  · rename_i n ha hs
    simp only [Option.some.injEq] at h; subst h
    refine ⟨.agg (vs.extract off (off + n)), .agg ?_, fun w => ?_⟩
    · have e1 : (vs.extract off (off + n)).toList = (vs.toList.drop off).take n := by
        rw [Array.toList_extract, List.extract_eq_drop_take']
        try rw [← List.take_drop]
      rw [e1]; exact (hv.drop off).take n
    · simp [part, run_aagg ha, run_asize hs]
  · rename_i n ha hs
    obtain ⟨v, hv', hr⟩ := hv.get? h
    refine ⟨v, hr, fun w => ?_⟩
    simp only [part, Sem.run_bind, run_aagg ha, Result.andThen_ok]
    rw [Array.getElem?_toList] at hv'
    simp [hv']
  · simp at h

def aeqFields (P : Program) (eq : TypeId → AV → AV → Option Bool) (xs ys : List AV) : List Field → Option Bool
  | [] => some true
  | f :: fs => if f.name ≠ "_" then
      match apart' P f.type xs f.offset, apart' P f.type ys f.offset with
      | some a, some b => match eq f.type a b with
        | some true => aeqFields P eq xs ys fs
        | r => r
      | _, _ => none
    else aeqFields P eq xs ys fs

def aeqElems (P : Program) (eq : TypeId → AV → AV → Option Bool) (e : TypeId) (n : Nat) (xs ys : List AV) : Nat → Nat → Option Bool
  | 0, _ => some true
  | m + 1, i => match apart' P e xs (i * n), apart' P e ys (i * n) with
    | some a, some b => match eq e a b with
      | some true => aeqElems P eq e n xs ys m (i + 1)
      | r => r
    | _, _ => none

def aeqIn (P : Program) : Nat → TypeId → AV → AV → Option Bool
  | 0, _, _, _ => none
  | d + 1, t, x, y => match P.underlying t, x, y with
    | some .bool, .bool a, .bool b => some (a == b)
    | some (.int _), .int k a, .int k' b => if k = k' then some (a == b) else none
    | some .string, .str a, .str b => some (a == b)
    | some (.pointer _), .nilptr, .nilptr => some true
    | some (.pointer _), .nilptr, .ptr _ _ => some false
    | some (.pointer _), .nilptr, .vptr _ => some false
    | some (.pointer _), .ptr _ _, .nilptr => some false
    | some (.pointer _), .vptr _, .nilptr => some false
    | some (.slice _), .nilsl, .nilsl => some true
    | some (.slice _), .nilsl, .sl .. => some false
    | some (.slice _), .nilsl, .vsl .. => some false
    | some (.slice _), .sl .., .nilsl => some false
    | some (.slice _), .vsl .., .nilsl => some false
    | some (.map _ _), .nilmap, .nilmap => some true
    | some (.func _ _ _), .nilfunc, .nilfunc => some true
    | some (.func _ _ _), .nilfunc, .func .. => some false
    | some (.func _ _ _), .func .., .nilfunc => some false
    | some (.interface _), .niliface, .niliface => some true
    | some (.interface _), .niliface, .iface .. => some false
    | some (.interface _), .iface .., .niliface => some false
    | some (.interface _), .iface tx a, .iface ty b => if tx = ty then (match P.info? tx with
      | some i => if i.comparable then aeqIn P d tx a b else none
      | none => none) else some false
    | some (.struct fs), .agg xs, .agg ys => if P.stoodInHeld t then none else aeqFields P (aeqIn P d) xs ys fs.toList
    | some (.array len e), .agg xs, .agg ys => match asize P e with
      | some n => aeqElems P (aeqIn P d) e n xs ys len 0
      | none => none
    | _, _, _ => none

def EqSound (P : Program) (E : Env) (eq : TypeId → AV → AV → Option Bool) (d : Nat) : Prop :=
  ∀ t x y u v r, eq t x y = some r → VRel E x u → VRel E y v → ∀ w, (Op.equalIn d t u v).run P w = .ok r w

theorem aeqFields_sound {P : Program} {E : Env} {d : Nat} {eq : TypeId → AV → AV → Option Bool} (he : EqSound P E eq d) {xs ys : List AV} {us vs : Array Value} (hx : VRels E xs us.toList) (hy : VRels E ys vs.toList) :
    ∀ (fs : List Field) (r : Bool), aeqFields P eq xs ys fs = some r → ∀ w, (Op.eqFields d us vs fs).run P w = .ok r w
  | [], r, h, w => by simp [aeqFields] at h; subst h; simp [Op.eqFields]
  | f :: fs, r, h, w => by
    simp only [aeqFields] at h
    simp only [Op.eqFields]
    split at h
    · rename_i hn
      rw [if_pos hn]
      split at h
      · rename_i a b ha hb
        obtain ⟨u, hu, hur⟩ := apart'_sound ha hx
        obtain ⟨v, hv, hvr⟩ := apart'_sound hb hy
        simp only [Sem.run_bind, hur, hvr, Result.andThen_ok]
        split at h
        · rename_i e1
          simp only [he _ _ _ _ _ _ e1 hu hv w, Result.andThen_ok]
          simpa using aeqFields_sound he hx hy fs r h w
        · rename_i e1
          have h' := he _ _ _ _ _ _ h hu hv w
          rw [h']
          simp only [Result.andThen_ok]
          cases r
          · simp
          · exact absurd h e1
      · simp at h
    · rename_i hn
      rw [if_neg hn]
      exact aeqFields_sound he hx hy fs r h w

end Go.Abs

/-
  A simplified meaning for Go code, fourth part: equality; the pure operations together.
-/

namespace Go.Abs
open Go

theorem aeqElems_sound {P : Program} {E : Env} {d : Nat} {eq : TypeId → AV → AV → Option Bool} (he : EqSound P E eq d) {e : TypeId} {n : Nat} {xs ys : List AV} {us vs : Array Value} (hx : VRels E xs us.toList) (hy : VRels E ys vs.toList) :
    ∀ (m i : Nat) (r : Bool), aeqElems P eq e n xs ys m i = some r → ∀ w,
    ∃ q, (forIn (m := Sem) (List.range' i m) ((none, ()) : Option Bool × Unit) (fun j _ => do
      let a ← part e us (j * n)
      let b ← part e vs (j * n)
      let t ← Op.equalIn d e a b
      if (!t) = true then pure (ForInStep.done (some false, ())) else pure (ForInStep.yield (none, ())))).run P w = .ok (q, ()) w ∧ q = (if r then none else some false)
  | 0, i, r, h, w => by
    simp [aeqElems] at h; subst h
    exact ⟨none, by simp, rfl⟩
  | m + 1, i, r, h, w => by
    simp only [aeqElems] at h
    split at h
    · rename_i a b ha hb
      obtain ⟨u, hu, hur⟩ := apart'_sound ha hx
      obtain ⟨v, hv, hvr⟩ := apart'_sound hb hy
      simp only [List.range'_succ, List.forIn_cons, Sem.run_bind, hur, hvr, Result.andThen_ok]
      split at h
      · rename_i e1
        simp only [he _ _ _ _ _ _ e1 hu hv w, Result.andThen_ok]
        obtain ⟨q, h1, h2⟩ := aeqElems_sound he hx hy m (i + 1) r h w
        refine ⟨q, ?_, h2⟩
        simpa using h1
      · rename_i e1
        simp only [he _ _ _ _ _ _ h hu hv w, Result.andThen_ok]
        cases r
        · exact ⟨some false, by simp, rfl⟩
        · exact absurd h e1
    · simp at h

theorem aeqIn_sound {P : Program} {E : Env} : ∀ d, EqSound P E (aeqIn P d) d
  | 0 => fun t x y u v r h _ _ w => by simp [aeqIn] at h
  | d + 1 => fun t x y u v r h hx hy w => by
    have ih := aeqIn_sound (P := P) (E := E) d
    unfold aeqIn at h
    split at h <;> first
      | (simp at h; done)
      | (rename_i ht
         simp only [Option.some.injEq] at h; subst h
         cases hx <;> cases hy <;> rw [Op.equalIn, Sem.run_bind, run_underlying ht] <;> first
           | rfl
           | (refine Eq.trans (b := .ok ((ByteArray.mk (List.toArray _)) == (ByteArray.mk (List.toArray _))) w) rfl ?_
              rw [beq_toListBytes, ByteArray.toList_mk, ByteArray.toList_mk]))
      | skip
    · rename_i ht
      split at h
      · rename_i hk
        simp only [Option.some.injEq] at h; subst h
        cases hx; cases hy
        rw [Op.equalIn, Sem.run_bind, run_underlying ht, Result.andThen_ok]
        show (if _ = _ then (pure _ : Sem Bool) else _).run P w = _
        rw [if_pos hk]; rfl
      · simp at h
    · rename_i tx a ty b ht
      split at h
      · rename_i hk
        subst hk
        split at h <;> try (simp at h; done)
        rename_i i hi
        split at h <;> try (simp at h; done)
        rename_i hcmp
        cases hx with | iface hx => cases hy with | iface hy =>
        rw [Op.equalIn, Sem.run_bind, run_underlying ht, Result.andThen_ok]
        refine Eq.trans ?_ (ih _ _ _ _ _ _ h hx hy w)
        have e : ∀ w, (typeInfo tx).run P w = .ok i w := fun w => by simp [typeInfo, hi]
        simp [e, hcmp]
      · rename_i hk
        simp only [Option.some.injEq] at h; subst h
        cases hx with | iface hx => cases hy with | iface hy =>
        rw [Op.equalIn, Sem.run_bind, run_underlying ht, Result.andThen_ok]
        simp only [ne_eq, hk, not_false_eq_true, if_true]
        rfl
    · rename_i fs xs ys ht
      split at h
      · simp at h
      · rename_i hs
        cases hx with | agg hx => cases hy with | agg hy =>
        have hfo : P.fieldsOf t = fs := by simp [Program.fieldsOf, ht]
        rw [run_equalIn_struct w d t _ _ (by rw [hfo]; exact ht) (by simpa using hs), hfo]
        exact aeqFields_sound ih hx hy _ _ h w
    · rename_i len e xs ys ht
      split at h
      · rename_i n hn
        cases hx with | agg hx => cases hy with | agg hy =>
        obtain ⟨q, h1, h2⟩ := aeqElems_sound ih hx hy len 0 r h w
        rw [Op.equalIn, Sem.run_bind, run_underlying ht, Result.andThen_ok]
        simp only [Sem.run_bind, Result.andThen_ok, run_asize hn, Std.Legacy.Range.forIn_eq_forIn_range']
        simp only [Std.Legacy.Range.size, Nat.sub_zero, Nat.div_one, Nat.add_one_sub_one]
        rw [h1]
        subst h2
        cases r <;> simp
      · simp at h

end Go.Abs

/-
  A simplified meaning for Go code, fifth part: the operations that look at no memory, together.
-/

namespace Go.Abs
open Go

/-- The run of s in whatever world is v, and the world is as it was. -/
def Yields (P : Program) (E : Env) (s : Sem Value) (r : AV) : Prop := ∃ v, VRel E r v ∧ ∀ w, s.run P w = .ok v w

/-! ### binary operators -/

def abin (P : Program) (op : BinOp) (t : TypeId) (x y : Operand) : AV → AV → Option AV
  | .int k a, .int k' b => match op with
    | .shl | .shr => ashift op k a b
    | _ => if k = k' then aint2 op k a b else none
  | .str a, .str b => astr2 op a b
  | a, b => match op with
    | .eql => match a, b with
      | .niliface, .niliface => if Region.isConst x || Region.isConst y then (aeqIn P 10000 t .niliface .niliface).map .bool else none
      | .agg xs, .agg ys => if P.eqGuardType P.depth t then none else (aeqIn P 10000 t (.agg xs) (.agg ys)).map .bool
      | a, b => (aeqIn P 10000 t a b).map .bool
    | .neq => match a, b with
      | .niliface, .niliface => if Region.isConst x || Region.isConst y then (aeqIn P 10000 t .niliface .niliface).map fun r => .bool (!r) else none
      | .agg xs, .agg ys => if P.eqGuardType P.depth t then none else (aeqIn P 10000 t (.agg xs) (.agg ys)).map fun r => .bool (!r)
      | a, b => (aeqIn P 10000 t a b).map fun r => .bool (!r)
    | _ => none

theorem eqGuard_ok {P : Program} (w : World) (op : BinOp) (t : TypeId) (x y : Operand) (u v : Value)
    (h1 : u = .nilIface → v = .nilIface → (Region.isConst x || Region.isConst y) = true) (h2 : ∀ xs ys, u = .agg xs → v = .agg ys → P.eqGuardType P.depth t = false) :
    (eqGuard op t x y u v).run P w = .ok () w := by
  cases u <;> cases v <;> try (cases op <;> rfl)
  · have := h1 rfl rfl
    cases x <;> cases y <;> simp [Region.isConst] at this <;> cases op <;> rfl
  · have := h2 _ _ rfl rfl
    exact run_eqGuard_agg w op t x y _ _ this

theorem binOp_eql_run {P : Program} {w : World} {t : TypeId} {u v : Value} {r : Bool} (h : (Op.equalIn 10000 t u v).run P w = .ok r w)
    (hn : (∀ k a k' b, u = .int k a → v = .int k' b → False) ∧ (∀ a b, u = .string a → v = .string b → False) ∧ (∀ k a k' b, u = .float k a → v = .float k' b → False) ∧ (∀ k a b k' c d, u = .complex k a b → v = .complex k' c d → False)) :
    (binOp .eql t u v).run P w = .ok (.bool r) w ∧ (binOp .neq t u v).run P w = .ok (.bool (!r)) w := by
  obtain ⟨h1, h2, h3, h4⟩ := hn
  have e1 : binOp .eql t u v = (do pure (.bool (← Op.equal t u v))) := by
    cases u <;> cases v <;> first | rfl | exact (h1 _ _ _ _ rfl rfl).elim | exact (h2 _ _ rfl rfl).elim | exact (h3 _ _ _ _ rfl rfl).elim | exact (h4 _ _ _ _ _ _ rfl rfl).elim
  have e2 : binOp .neq t u v = (do pure (.bool (!(← Op.equal t u v)))) := by
    cases u <;> cases v <;> first | rfl | exact (h1 _ _ _ _ rfl rfl).elim | exact (h2 _ _ rfl rfl).elim | exact (h3 _ _ _ _ rfl rfl).elim | exact (h4 _ _ _ _ _ _ rfl rfl).elim
  rw [e1, e2]
  have h' : (Op.equal t u v).run P w = .ok r w := h
  simp [h']

theorem abin_eq {P : Program} {E : Env} {op : BinOp} {t : TypeId} {x y : Operand} {a b : AV} {u v : Value} {r : Bool} {g : Bool → AV}
    (hg : (op = .eql ∧ g = .bool) ∨ (op = .neq ∧ g = fun r => .bool (!r)))
    (h : aeqIn P 10000 t a b = some r) (hu : VRel E a u) (hv : VRel E b v)
    (hi : ∀ k n k' m, a = .int k n → b = .int k' m → False) (hs : ∀ s s', a = .str s → b = .str s' → False)
    (h1 : a = .niliface → b = .niliface → (Region.isConst x || Region.isConst y) = true) (h2 : ∀ xs ys, a = .agg xs → b = .agg ys → P.eqGuardType P.depth t = false) :
    Yields P E (do eqGuard op t x y u v; binOp op t u v) (g r) := by
  have hgd : ∀ w, (eqGuard op t x y u v).run P w = .ok () w := fun w => eqGuard_ok w op t x y u v
    (fun e1 e2 => by subst e1; subst e2; cases hu; cases hv; exact h1 rfl rfl) (fun xs ys e1 e2 => by subst e1; subst e2; cases hu; cases hv; exact h2 _ _ rfl rfl)
  have hn : (∀ k a k' b, u = .int k a → v = .int k' b → False) ∧ (∀ a b, u = .string a → v = .string b → False) ∧ (∀ k a k' b, u = .float k a → v = .float k' b → False) ∧ (∀ k a b k' c d, u = .complex k a b → v = .complex k' c d → False) := by
    refine ⟨?_, ?_, ?_, ?_⟩
    · intro k n k' m e1 e2; subst e1; subst e2; cases hu; cases hv; exact hi _ _ _ _ rfl rfl
    · intro p q e1 e2; subst e1; subst e2; cases hu; cases hv; exact hs _ _ rfl rfl
    · intro k n k' m e1 e2; subst e1; cases hu
    · intro k n n' k' m m' e1 e2; subst e1; cases hu
  have hr := fun w => binOp_eql_run (aeqIn_sound (P := P) (E := E) 10000 t a b u v r h hu hv w) hn
  rcases hg with ⟨rfl, rfl⟩ | ⟨rfl, rfl⟩
  · exact ⟨_, .bool _, fun w => by simp only [Sem.run_bind, hgd, Result.andThen_ok, (hr w).1]⟩
  · exact ⟨_, .bool _, fun w => by simp only [Sem.run_bind, hgd, Result.andThen_ok, (hr w).2]⟩

theorem eqGuard_int (op : BinOp) (t : TypeId) (x y : Operand) (k : IntKind) (n : Int) (v : Value) : eqGuard op t x y (.int k n) v = pure () := by cases op <;> rfl
theorem eqGuard_str (op : BinOp) (t : TypeId) (x y : Operand) (s : ByteArray) (v : Value) : eqGuard op t x y (.string s) v = pure () := by cases op <;> rfl

theorem abin_sound {P : Program} {E : Env} {op : BinOp} {t : TypeId} {x y : Operand} {a b r : AV} {u v : Value} (h : abin P op t x y a b = some r) (hu : VRel E a u) (hv : VRel E b v) :
    Yields P E (do eqGuard op t x y u v; binOp op t u v) r := by
  unfold abin at h
  split at h
  · cases hu; cases hv
    simp only [Yields, eqGuard_int]
    split at h
    · obtain ⟨v, h1, h2⟩ := ashift_sound (P := P) (E := E) t h
      exact ⟨v, h1, fun w => by simpa using h2 w⟩
    · obtain ⟨v, h1, h2⟩ := ashift_sound (P := P) (E := E) t h
      exact ⟨v, h1, fun w => by simpa using h2 w⟩
    · split at h
      · rename_i hk
        subst hk
        obtain ⟨v, h1, h2⟩ := aint2_sound (P := P) (E := E) t h
        exact ⟨v, h1, fun w => by simpa using h2 w⟩
      · simp at h
  · cases hu; cases hv
    simp only [Yields, eqGuard_str]
    obtain ⟨v, h1, h2⟩ := astr2_sound (P := P) (E := E) t h
    exact ⟨v, h1, fun w => by simpa using h2 w⟩
  · rename_i hi hs
    split at h
    · split at h
      · split at h
        · rename_i hc
          simp only [Option.map_eq_some_iff] at h; obtain ⟨q, h1, rfl⟩ := h
          exact abin_eq (g := .bool) (.inl ⟨rfl, rfl⟩) h1 hu hv (fun _ _ _ _ e => by simp at e) (fun _ _ e => by simp at e) (fun _ _ => hc) (fun _ _ e => by simp at e)
        · simp at h
      · split at h
        · simp at h
        · rename_i hc
          simp only [Option.map_eq_some_iff] at h; obtain ⟨q, h1, rfl⟩ := h
          exact abin_eq (g := .bool) (.inl ⟨rfl, rfl⟩) h1 hu hv (fun _ _ _ _ e => by simp at e) (fun _ _ e => by simp at e) (fun e => by simp at e) (fun _ _ _ _ => by simpa using hc)
      · rename_i hn ha
        simp only [Option.map_eq_some_iff] at h; obtain ⟨q, h1, rfl⟩ := h
        exact abin_eq (g := .bool) (.inl ⟨rfl, rfl⟩) h1 hu hv hi hs (fun e e' => (hn e e').elim) (fun xs ys e e' => (ha xs ys e e').elim)
    · split at h
      · split at h
        · rename_i hc
          simp only [Option.map_eq_some_iff] at h; obtain ⟨q, h1, rfl⟩ := h
          exact abin_eq (g := fun r => .bool (!r)) (.inr ⟨rfl, rfl⟩) h1 hu hv (fun _ _ _ _ e => by simp at e) (fun _ _ e => by simp at e) (fun _ _ => hc) (fun _ _ e => by simp at e)
        · simp at h
      · split at h
        · simp at h
        · rename_i hc
          simp only [Option.map_eq_some_iff] at h; obtain ⟨q, h1, rfl⟩ := h
          exact abin_eq (g := fun r => .bool (!r)) (.inr ⟨rfl, rfl⟩) h1 hu hv (fun _ _ _ _ e => by simp at e) (fun _ _ e => by simp at e) (fun e => by simp at e) (fun _ _ _ _ => by simpa using hc)
      · rename_i hn ha
        simp only [Option.map_eq_some_iff] at h; obtain ⟨q, h1, rfl⟩ := h
        exact abin_eq (g := fun r => .bool (!r)) (.inr ⟨rfl, rfl⟩) h1 hu hv hi hs (fun e e' => (hn e e').elim) (fun xs ys e e' => (ha xs ys e e').elim)
    · simp at h

/-! ### unary operators, conversions -/

def aun (op : UnOp) : AV → Option AV
  | .int k n => match op with
    | .neg => some (.int k (k.wrap (0 - n)))
    | .xor => some (.int k (k.wrap ((BitVec.ofInt k.bits (if k.signed then -1 else k.max) ^^^ BitVec.ofInt k.bits n).toNat : Nat)))
    | _ => none
  | .bool b => match op with
    | .not => some (.bool !b)
    | _ => none
  | _ => none

theorem aun_sound {P : Program} {E : Env} {op : UnOp} {a r : AV} {u : Value} (h : aun op a = some r) (hu : VRel E a u) : Yields P E (Op.unary op u) r := by
  unfold aun at h
  split at h <;> first
    | (simp at h; done)
    | (cases hu
       split at h <;> first
         | (simp at h; done)
         | (simp only [Option.some.injEq] at h; subst h
            first
              | exact ⟨_, .int _ _, fun w => rfl⟩
              | exact ⟨_, .bool _, fun w => rfl⟩))

def aconv (P : Program) (s d : TypeId) : AV → Option AV
  | .int _ n => match P.underlying s, P.underlying d with
    | some _, some (.int k) => some (.int k (k.wrap n))
    | _, _ => none
  | .str x => match P.underlying s, P.underlying d with
    | some _, some .string => some (.str x)
    | _, _ => none
  | _ => none

theorem aconv_sound {P : Program} {E : Env} {s d : TypeId} {a r : AV} {u : Value} (h : aconv P s d a = some r) (hu : VRel E a u) : Yields P E (convert s d u) r := by
  unfold aconv at h
  split at h
  · cases hu
    split at h
    · rename_i h1 h2
      simp only [Option.some.injEq] at h; subst h
      refine ⟨_, .int _ _, fun w => ?_⟩
      simp only [convert, Sem.run_bind, run_underlying h1, run_underlying h2, Result.andThen_ok, Conv.intToInt, Sem.run_pure]
    · simp at h
  · cases hu
    split at h
    · rename_i h1 h2
      simp only [Option.some.injEq] at h; subst h
      refine ⟨_, .str _, fun w => ?_⟩
      simp only [convert, Sem.run_bind, run_underlying h1, run_underlying h2, Result.andThen_ok, Sem.run_pure]
    · simp at h
  · simp at h

/-! ### indexes, slices, fields -/

def abound (x : AV) (y : Nat) : Option Nat := match x with
  | .int _ i => if 0 ≤ i ∧ i ≤ y then some i.toNat else none
  | _ => none

theorem abound_sound {P : Program} {E : Env} {x : AV} {y n : Nat} {u : Value} (code : BoundsCode) (h : abound x y = some n) (hu : VRel E x u) : n ≤ y ∧ ∀ (y' : Nat), y ≤ y' → ∀ w, (Instr.sliceBound u y' code).run P w = .ok n w := by
  unfold abound at h
  split at h
  · cases hu
    split at h
    · rename_i hb
      simp only [Option.some.injEq] at h; subst h
      refine ⟨by omega, fun y' hy w => ?_⟩
      simp only [Instr.sliceBound, asIntOf, Sem.run_bind, Sem.run_pure, Result.andThen_ok]
      rw [if_pos (by omega)]; rfl
    · simp at h
  · simp at h

/-- low, high, max; len and the capacity (a lower bound of it serves where no max is given). -/
def abounds (len cap : Nat) (low high max : Option AV) : Option (Nat × Nat × Nat) :=
  match (match max with | some v => abound v cap | none => some cap) with
  | none => none
  | some m => match (match high with | some v => abound v m | none => match max with | some _ => none | none => some len) with
    | none => none
    | some h => match (match low with | some v => abound v h | none => some 0) with
      | none => none
      | some l => some (l, h, m)

inductive ORels (E : Env) : Option AV → Option Value → Prop
  | none : ORels E none none
  | some {a : AV} {v : Value} (h : VRel E a v) : ORels E (some a) (some v)

theorem abounds_sound {P : Program} {E : Env} {len cap c' l h m : Nat} {low high max : Option AV} {ul uh um : Option Value} (isl : Bool) (hc : cap ≤ c') (hlen : len ≤ cap)
    (e : abounds len cap low high max = some (l, h, m)) (h1 : ORels E low ul) (h2 : ORels E high uh) (h3 : ORels E max um) :
    l ≤ h ∧ h ≤ m ∧ m ≤ cap ∧ (max = none → m = cap) ∧ ∀ w, (Instr.sliceBounds isl len c' ul uh um).run P w = .ok (l, h, if max.isNone then c' else m) w := by
  unfold abounds at e
  cases h3 with
  | none =>
    simp only at e
    cases h2 with
    | none =>
      simp only at e
      cases h1 with
      | none =>
        simp only [Option.some.injEq, Prod.mk.injEq] at e; obtain ⟨rfl, rfl, rfl⟩ := e
        refine ⟨by omega, by omega, by omega, fun _ => rfl, fun w => ?_⟩
        simp [Instr.sliceBounds]
      | some hl =>
        simp only at e
        split at e
        · simp at e
        · rename_i l' hl'
          simp only [Option.some.injEq, Prod.mk.injEq] at e; obtain ⟨rfl, rfl, rfl⟩ := e
          have g := abound_sound (P := P) .sliceB hl' hl
          refine ⟨g.1, by omega, by omega, fun _ => rfl, fun w => ?_⟩
          have g2 := g.2 _ (Nat.le_refl _) w
          simp [Instr.sliceBounds, g2]
    | some hh =>
      simp only at e
      split at e
      · simp at e
      · rename_i h' hh'
        have gh := abound_sound (P := P) (if isl then .sliceAcap else .sliceAlen) hh' hh
        cases h1 with
        | none =>
          simp only [Option.some.injEq, Prod.mk.injEq] at e; obtain ⟨rfl, rfl, rfl⟩ := e
          refine ⟨by omega, gh.1, by omega, fun _ => rfl, fun w => ?_⟩
          have g2 := gh.2 _ hc w
          simp [Instr.sliceBounds, g2]
        | some hl =>
          simp only at e
          split at e
          · simp at e
          · rename_i l' hl'
            simp only [Option.some.injEq, Prod.mk.injEq] at e; obtain ⟨rfl, rfl, rfl⟩ := e
            have g := abound_sound (P := P) .sliceB hl' hl
            refine ⟨g.1, gh.1, by omega, fun _ => rfl, fun w => ?_⟩
            have g2 := gh.2 _ hc w
            have g3 := g.2 _ (Nat.le_refl _) w
            simp [Instr.sliceBounds, g2, g3]
  | some hm =>
    simp only at e
    split at e
    · simp at e
    · rename_i m' hm'
      have gm := abound_sound (P := P) (if isl then .slice3Acap else .slice3Alen) hm' hm
      cases h2 with
      | none => simp at e
      | some hh =>
        simp only at e
        split at e
        · simp at e
        · rename_i h' hh'
          have gh := abound_sound (P := P) .slice3B hh' hh
          cases h1 with
          | none =>
            simp only [Option.some.injEq, Prod.mk.injEq] at e; obtain ⟨rfl, rfl, rfl⟩ := e
            refine ⟨by omega, gh.1, gm.1, fun e => by simp at e, fun w => ?_⟩
            have g1 := gm.2 _ hc w
            have g2 := gh.2 _ (Nat.le_refl _) w
            simp [Instr.sliceBounds, g1, g2]
          | some hl =>
            simp only at e
            split at e
            · simp at e
            · rename_i l' hl'
              simp only [Option.some.injEq, Prod.mk.injEq] at e; obtain ⟨rfl, rfl, rfl⟩ := e
              have g := abound_sound (P := P) .slice3C hl' hl
              refine ⟨g.1, gh.1, gm.1, fun e => by simp at e, fun w => ?_⟩
              have g1 := gm.2 _ hc w
              have g2 := gh.2 _ (Nat.le_refl _) w
              have g3 := g.2 _ (Nat.le_refl _) w
              simp [Instr.sliceBounds, g1, g2, g3]

end Go.Abs

/-
  A simplified meaning for Go code, sixth part: slices, fields, indexes, literals; all that looks at no memory.
-/

namespace Go.Abs
open Go

def aslice (P : Program) (t : TypeId) (x : AV) (low high max : Option AV) : Option AV :=
  match P.underlying t, x with
  | some .string, .str s => match max with
    | some _ => none
    | none => match abounds s.length s.length low high none with
      | some (l, h, _) => some (.str ((s.drop l).take (h - l)))
      | none => none
  | some (.slice e), .nilsl => match asize P e, abounds 0 0 low high max with
    | some _, some (_, _, _) => some .nilsl
    | _, _ => none
  | some (.slice e), .sl i o z len cap opn => match asize P e, abounds len cap low high max with
    | some n, some (l, h, m) =>
      if n = z then
        if l < m then some (.sl i (o + l * z) z (h - l) (m - l) (opn && max.isNone))
        else if opn && max.isNone then some (.vsl [] 0)
        else some (.sl i o z (h - l) (m - l) false)
      else none
    | _, _ => none
  | some (.slice e), .vsl cs len => match asize P e, abounds len len low high max with
    | some n, some (l, h, m) => if l < m then (if max.isSome = true ∧ h = m then some (.csl (cs.drop (l * n)) (h - l)) else some (.vsl (cs.drop (l * n)) (h - l))) else some (.vsl [] 0)
    | _, _ => none
  | _, _ => none

theorem InK.drop {E : Env} {B o : Nat} {vs : List Value} (h : InK E B o vs) (n : Nat) : InK E B (o + n) (vs.drop n) := by
  rcases h with h | ⟨c, e, f, h1, h2⟩
  · subst h; exact .inl (by simp)
  · refine .inr ⟨c, e, f, h1, ?_⟩
    have := prefix_take_drop h2 n
    rwa [List.drop_drop] at this

theorem InK.nil {E : Env} {B o : Nat} : InK E B o [] := .inl rfl

theorem aslice_sound {P : Program} {E : Env} {t : TypeId} {x r : AV} {low high max : Option AV} {u : Value} {ul uh um : Option Value}
    (h : aslice P t x low high max = some r) (hx : VRel E x u) (h1 : ORels E low ul) (h2 : ORels E high uh) (h3 : ORels E max um) : Yields P E (Instr.slice t u ul uh um) r := by
  unfold aslice at h
  split at h
  · rename_i s ht
    cases hx
    split at h
    · simp at h
    · cases h3
      split at h
      · rename_i l hh m hb
        simp only [Option.some.injEq] at h; subst h
        obtain ⟨g1, g2, g3, g4, g5⟩ := abounds_sound (P := P) false (Nat.le_refl _) (Nat.le_refl _) hb h1 h2 .none
        refine ⟨.string ⟨((s.drop l).take (hh - l)).toArray⟩, .str _, fun w => ?_⟩
        have hs : (ByteArray.mk s.toArray).size = s.length := by simp [ByteArray.size]
        simp only [Instr.slice, Sem.run_bind, run_underlying ht, Result.andThen_ok, Option.isSome_none, Bool.false_eq_true, if_false, Sem.run_pure, hs, g5, ByteArray.extract_mk]
      · simp at h
  · rename_i e ht
    cases hx
    split at h
    · rename_i n l hh m hn hb
      simp only [Option.some.injEq] at h; subst h
      obtain ⟨g1, g2, g3, g4, g5⟩ := abounds_sound (P := P) true (Nat.le_refl _) (Nat.le_refl _) hb h1 h2 h3
      have hl0 : l = 0 := by omega
      have hh0 : hh = 0 := by omega
      have hm0 : m = 0 := by omega
      subst hl0; subst hh0; subst hm0
      refine ⟨.slice none 0 0, .nilsl, fun w => ?_⟩
      simp only [Instr.slice, Sem.run_bind, run_underlying ht, Result.andThen_ok, g5, run_asize hn, Sem.run_pure]
      cases max <;> rfl
    · simp at h
  · rename_i e i o z len cap opn ht
    cases hx with
    | sl hp hlen hcap hopn hroom =>
      rename_i c' p
      split at h
      · rename_i n l hh m hn hb
        split at h
        · rename_i hz
          subst hz
          obtain ⟨g1, g2, g3, g4, g5⟩ := abounds_sound (P := P) true hcap hlen hb h1 h2 h3
          -- the end that the run comes to
          have key : ∀ w, (Instr.slice t (.slice (some ⟨p.b, p.s + o, none⟩) len c') ul uh um).run P w =
              .ok (.slice (if (if max.isNone then c' else m) = l then some ⟨p.b, p.s + o, none⟩ else some ⟨p.b, p.s + o + l * n, none⟩) (hh - l) ((if max.isNone then c' else m) - l)) w := fun w => by
            simp only [Instr.slice, Sem.run_bind, run_underlying ht, Result.andThen_ok, g5, run_asize hn, Sem.run_pure, Option.map_some, Addr.add_mk]
          split at h
          · rename_i hlm
            simp only [Option.some.injEq] at h; subst h
            have hne : ¬ ((if max.isNone then c' else m) = l) := by
              split
              · rename_i hmn; have := g4 (by simpa using hmn); omega
              · omega
            refine ⟨_, ?_, fun w => (key w).trans (by rw [if_neg hne])⟩
            have hml : (if max.isNone then c' else m) ≤ c' := by split <;> omega
            have hmm : m ≤ (if max.isNone then c' else m) := by split <;> omega
            have e1 : p.s + o + l * n = p.s + (o + l * n) := by omega
            rw [e1]
            refine .sl hp (by omega) (by omega) ?_ ?_
            · intro ho
              simp only [Bool.and_eq_false_iff] at ho
              rcases ho with ho | ho
              · have := hopn ho
                cases max with
                | none => have := g4 rfl; simp; omega
                | some _ => simp
              · cases max with
                | none => simp at ho
                | some _ => simp
            · have hk : (if max.isNone then c' else m) = l + ((if max.isNone then c' else m) - l) := by omega
              have h5 : (l + ((if max.isNone then c' else m) - l)) * n ≤ c' * n := Nat.mul_le_mul_right _ (by omega)
              rw [Nat.add_mul] at h5
              omega
          · rename_i hlm
            have hhl : hh = l := by omega
            have hml : m = l := by omega
            subst hhl; subst hml
            split at h
            · simp only [Option.some.injEq] at h; subst h
              rw [Nat.sub_self] at key
              by_cases hq : (if max.isNone then c' else m) = m
              · rw [if_pos hq] at key
                exact ⟨_, .vsl InK.nil .nil (Nat.zero_le _), key⟩
              · rw [if_neg hq] at key
                exact ⟨_, .vsl InK.nil .nil (Nat.zero_le _), key⟩
            · rename_i hop
              simp only [Option.some.injEq] at h; subst h
              have hq : (if max.isNone then c' else m) = m := by
                cases max with
                | none =>
                  simp at hop
                  have := hopn hop
                  have := g4 rfl
                  simp; omega
                | some _ => simp
              rw [if_pos hq, hq, Nat.sub_self] at key
              refine ⟨.slice (some ⟨p.b, p.s + o, none⟩) 0 0, ?_, key⟩
              rw [Nat.sub_self]
              exact .sl hp (Nat.le_refl _) (Nat.le_refl _) (fun _ => rfl) (by omega)
        · simp at h
      · simp at h
  · rename_i e cs len ht
    cases hx with
    | vsl hK hv hl =>
      rename_i B o c' vs
      split at h
      · rename_i n l hh m hn hb
        obtain ⟨g1, g2, g3, g4, g5⟩ := abounds_sound (P := P) true hl (Nat.le_refl _) hb h1 h2 h3
        have key : ∀ w, (Instr.slice t (.slice (some ⟨B, o, none⟩) len c') ul uh um).run P w =
            .ok (.slice (if (if max.isNone then c' else m) = l then some ⟨B, o, none⟩ else some ⟨B, o + l * n, none⟩) (hh - l) ((if max.isNone then c' else m) - l)) w := fun w => by
          simp only [Instr.slice, Sem.run_bind, run_underlying ht, Result.andThen_ok, g5, run_asize hn, Sem.run_pure, Option.map_some, Addr.add_mk]
        have hmm : m ≤ (if max.isNone then c' else m) := by split <;> omega
        split at h
        · rename_i hlm
          have hne : ¬ ((if max.isNone then c' else m) = l) := by omega
          split at h
          · rename_i hcl
            obtain ⟨hcl, rfl⟩ := hcl
            simp only [Option.some.injEq] at h; subst h
            have hq : (if max.isNone then c' else hh) = hh := by
              cases max with
              | none => simp at hcl
              | some _ => rfl
            refine ⟨_, ?_, fun w => (key w).trans (by rw [if_neg hne, hq])⟩
            exact .csl (hK.drop _) (hv.drop _)
          · simp only [Option.some.injEq] at h; subst h
            refine ⟨_, ?_, fun w => (key w).trans (by rw [if_neg hne])⟩
            exact .vsl (hK.drop _) (hv.drop _) (by omega)
        · have hhl : hh = l := by omega
          subst hhl
          simp only [Option.some.injEq] at h; subst h
          rw [Nat.sub_self] at key
          by_cases hq : (if max.isNone then c' else m) = hh
          · rw [if_pos hq] at key
            exact ⟨_, .vsl InK.nil .nil (Nat.zero_le _), key⟩
          · rw [if_neg hq] at key
            exact ⟨_, .vsl InK.nil .nil (Nat.zero_le _), key⟩
      · simp at h
    | vsl0 =>
      rename_i a
      split at h
      · rename_i n l hh m hn hb
        obtain ⟨g1, g2, g3, g4, g5⟩ := abounds_sound (P := P) true (Nat.le_refl 0) (Nat.le_refl 0) hb h1 h2 h3
        have key : ∀ w, (Instr.slice t (.slice (some a) 0 0) ul uh um).run P w =
            .ok (.slice (if (if max.isNone then 0 else m) = l then some a else some (a.add (l * n))) (hh - l) ((if max.isNone then 0 else m) - l)) w := fun w => by
          simp only [Instr.slice, Sem.run_bind, run_underlying ht, Result.andThen_ok, g5, run_asize hn, Sem.run_pure, Option.map_some]
        have hm0 : m = 0 := by omega
        have hl0 : l = 0 := by omega
        have hh0 : hh = 0 := by omega
        subst hm0; subst hl0; subst hh0
        rw [if_neg (by omega)] at h
        simp only [Option.some.injEq] at h; subst h
        refine ⟨_, .vsl0 (a := a), fun w => (key w).trans ?_⟩
        simp
      · simp at h
  · simp at h

def afieldAddr (P : Program) (t : TypeId) (x : AV) (f : Nat) : Option AV :=
  match P.underlying t with
  | some (.struct fs) => match fs[f]? with
    | some fd => match asize P fd.type with
      | some 0 => none
      | some _ => match x with
        | .ptr i o => some (.ptr i (o + fd.offset))
        | .vptr cs => some (.vptr (cs.drop fd.offset))
        | _ => none
      | none => none
    | none => none
  | _ => none

theorem afieldAddr_sound {P : Program} {E : Env} {t : TypeId} {x r : AV} {f : Nat} {u : Value} (h : afieldAddr P t x f = some r) (hx : VRel E x u) : Yields P E (Instr.fieldAt t u f) r := by
  unfold afieldAddr at h
  split at h
  · rename_i fs ht
    split at h
    · rename_i fd hf
      split at h
      · simp at h
      · rename_i n hn0 hn
        split at h
        · simp only [Option.some.injEq] at h; subst h
          cases hx with | ptr hp =>
          refine ⟨_, .ptr hp, fun w => ?_⟩
          simp only [Instr.fieldAt, Sem.run_bind, run_underlying ht, Result.andThen_ok, hf, Instr.sureAddr, Sem.run_pure, fieldPlace, run_asize hn]
          rw [if_neg (fun e => by subst e; first | exact hn0 hn | exact hn0 rfl)]
          simp only [Sem.run_pure, Result.andThen_ok, Addr.add_mk, Nat.add_assoc]
        · simp only [Option.some.injEq] at h; subst h
          cases hx with | vptr hK hv =>
          refine ⟨_, .vptr (hK.drop fd.offset) (hv.drop fd.offset), fun w => ?_⟩
          simp only [Instr.fieldAt, Sem.run_bind, run_underlying ht, Result.andThen_ok, hf, Instr.sureAddr, Sem.run_pure, fieldPlace, run_asize hn]
          rw [if_neg (fun e => by subst e; first | exact hn0 hn | exact hn0 rfl)]
          simp only [Sem.run_pure, Result.andThen_ok, Addr.add_mk]
        · simp at h
      · simp at h
    · simp at h
  · simp at h

def afield (P : Program) (t : TypeId) (x : AV) (f : Nat) : Option AV :=
  match P.underlying t with
  | some (.struct fs) => match fs[f]? with
    | some fd => match x with
      | .agg cs => apart' P fd.type cs fd.offset
      | _ => none
    | none => none
  | _ => none

theorem afield_sound {P : Program} {E : Env} {t : TypeId} {x r : AV} {f : Nat} {u : Value} (h : afield P t x f = some r) (hx : VRel E x u) : Yields P E (Instr.field t u f) r := by
  unfold afield at h
  split at h
  · rename_i fs ht
    split at h
    · rename_i fd hf
      split at h
      · cases hx with | agg hv =>
        obtain ⟨v, h1, h2⟩ := apart'_sound h hv
        refine ⟨v, h1, fun w => ?_⟩
        simp only [Instr.field, Sem.run_bind, run_underlying ht, Result.andThen_ok, hf, asAgg, Sem.run_pure, h2]
      · simp at h
    · simp at h
  · simp at h

def aindexAddr (P : Program) (t : TypeId) (x ix : AV) : Option AV :=
  match ix with
  | .int _ n => match P.underlying t with
    | some (.slice e) => match asize P e with
      | some z => match x with
        | .sl i o z' len _ _ => if 0 ≤ n ∧ n < len ∧ z = z' then some (.ptr i (o + n.toNat * z)) else none
        | .vsl cs len => if 0 ≤ n ∧ n < len then some (.vptr (cs.drop (n.toNat * z))) else none
        | _ => none
      | none => none
    | some (.array len e) => match asize P e with
      | some z => match x with
        | .ptr i o => if 0 ≤ n ∧ n < len then some (.ptr i (o + n.toNat * z)) else none
        | .vptr cs => if 0 ≤ n ∧ n < len then some (.vptr (cs.drop (n.toNat * z))) else none
        | _ => none
      | none => none
    | _ => none
  | _ => none

theorem aindexAddr_sound {P : Program} {E : Env} {t : TypeId} {x ix r : AV} {u ui : Value} (h : aindexAddr P t x ix = some r) (hx : VRel E x u) (hi : VRel E ix ui) : Yields P E (Instr.indexAt t u ui) r := by
  unfold aindexAddr at h
  split at h
  · rename_i k n
    cases hi
    split at h
    · rename_i e ht
      have hel : P.elem t = e := by simp [Program.elem, ht]
      split at h
      · rename_i z hz
        split at h
        · split at h
          · rename_i hb
            simp only [Option.some.injEq] at h; subst h
            cases hx with | sl hp =>
            refine ⟨_, .ptr hp, fun w => ?_⟩
            rw [run_indexAt_slice w t _ _ _ k n (by rw [hel]; exact ht), hel, if_pos ⟨hb.1, hb.2.1⟩, run_asize hz]
            simp only [Result.andThen_ok, Addr.add_mk, Nat.add_assoc]
          · simp at h
        · split at h
          · rename_i hb
            simp only [Option.some.injEq] at h; subst h
            cases hx with
            | vsl0 => omega
            | vsl hK hv =>
              refine ⟨_, .vptr (hK.drop (n.toNat * z)) (hv.drop (n.toNat * z)), fun w => ?_⟩
              rw [run_indexAt_slice w t _ _ _ k n (by rw [hel]; exact ht), hel, if_pos hb, run_asize hz]
              simp only [Result.andThen_ok, Addr.add_mk]
          · simp at h
        · simp at h
      · simp at h
    · rename_i len e ht
      have hel : P.elem t = e := by simp [Program.elem, ht]
      have hal : P.arrayLen t = len := by simp [Program.arrayLen, ht]
      split at h
      · rename_i z hz
        split at h
        · split at h
          · rename_i hb
            simp only [Option.some.injEq] at h; subst h
            cases hx with | ptr hp =>
            refine ⟨_, .ptr hp, fun w => ?_⟩
            rw [run_indexAt_array w t _ k n (by rw [hel, hal]; exact ht), hel, hal, if_pos hb, run_asize hz]
            simp only [Result.andThen_ok, Addr.add_mk, Nat.add_assoc]
          · simp at h
        · split at h
          · rename_i hb
            simp only [Option.some.injEq] at h; subst h
            cases hx with | vptr hK hv =>
            refine ⟨_, .vptr (hK.drop (n.toNat * z)) (hv.drop (n.toNat * z)), fun w => ?_⟩
            rw [run_indexAt_array w t _ k n (by rw [hel, hal]; exact ht), hel, hal, if_pos hb, run_asize hz]
            simp only [Result.andThen_ok, Addr.add_mk]
          · simp at h
        · simp at h
      · simp at h
    · simp at h
  · simp at h

def aindex (P : Program) (t : TypeId) (x ix : AV) : Option AV :=
  match ix with
  | .int _ n => match P.underlying t, x with
    | some (.array len e), .agg cs => match asize P e with
      | some z => if 0 ≤ n ∧ n < len then apart' P e cs (n.toNat * z) else none
      | none => none
    | some .string, .str s => if 0 ≤ n then match s[n.toNat]? with
        | some b => some (.int .u8 b.toNat)
        | none => none
      else none
    | _, _ => none
  | _ => none

theorem aindex_sound {P : Program} {E : Env} {t : TypeId} {x ix r : AV} {u ui : Value} (h : aindex P t x ix = some r) (hx : VRel E x u) (hi : VRel E ix ui) : Yields P E (Instr.index t u ui) r := by
  unfold aindex at h
  split at h
  · rename_i k n
    cases hi
    split at h
    · rename_i len e cs ht
      split at h
      · rename_i z hz
        split at h
        · rename_i hb
          cases hx with | agg hv =>
          obtain ⟨v, h1, h2⟩ := apart'_sound h hv
          refine ⟨v, h1, fun w => ?_⟩
          simp only [Instr.index, Sem.run_bind, asIntOf, Sem.run_pure, run_underlying ht, Result.andThen_ok]
          rw [if_pos hb]
          simp only [Sem.run_bind, run_asize hz, Result.andThen_ok, h2]
        · simp at h
      · simp at h
    · rename_i s ht
      split at h
      · rename_i hb
        split at h
        · rename_i b hs
          simp only [Option.some.injEq] at h; subst h
          cases hx
          refine ⟨_, .int _ _, fun w => ?_⟩
          have hs' : (ByteArray.mk s.toArray)[n.toNat]? = some b := by
            have hlt : n.toNat < s.length := by
              rcases Nat.lt_or_ge n.toNat s.length with q | q
              · exact q
              · rw [List.getElem?_eq_none q] at hs; simp at hs
            rw [ByteArray.getElem?_lt' _ _ (by simpa [ByteArray.size] using hlt)]
            rw [List.getElem?_eq_getElem hlt] at hs
            simp at hs
            rw [← hs]
            rfl
          simp only [Instr.index, Sem.run_bind, asIntOf, Sem.run_pure, run_underlying ht, Result.andThen_ok]
          rw [if_pos hb, hs']
          rfl
        · simp at h
      · simp at h
    · simp at h
  · simp at h

end Go.Abs

/-
  A simplified meaning for Go code, seventh part: literals, builtins; 'apure': every operation that looks at no memory.
-/


namespace Go.Abs
open Go

def afill (place : Nat → Option (Nat × Nat)) (cells : List AV) : List (Nat × AV) → Option (List AV)
  | [] => some cells
  | (i, v) :: rest =>
    match place i with
    | none => none
    | some (off, size) => if v.cells.length = size ∧ off + v.cells.length ≤ cells.length then afill place (splice cells off v.cells) rest else none

inductive PRels (E : Env) : List (Nat × AV) → List (Nat × Value) → Prop
  | nil : PRels E [] []
  | cons {i : Nat} {a : AV} {v : Value} {as_ : List (Nat × AV)} {vs : List (Nat × Value)} (h : VRel E a v) (t : PRels E as_ vs) : PRels E ((i, a) :: as_) ((i, v) :: vs)

theorem VRels.splice {E : Env} {cs as_ : List AV} {us vs : List Value} (h : VRels E cs us) (k : VRels E as_ vs) (o : Nat) :
    VRels E (Abs.splice cs o as_) (us.take o ++ (vs ++ us.drop (o + vs.length))) := by
  unfold Abs.splice
  rw [k.length]
  exact (h.take o).append (k.append (h.drop _))

theorem foldl_setAll (vs : List Value) : ∀ (k : Nat) (c : Array Value) (off : Nat), off + k + vs.length ≤ c.size →
    ((vs.zipIdx k).foldl (fun cs (p : Value × Nat) => cs.setIfInBounds (off + p.2) p.1) c).toList = c.toList.take (off + k) ++ (vs ++ c.toList.drop (off + k + vs.length)) := by
  induction vs with
  | nil => intro k c off h; simp
  | cons v vs ih =>
    intro k c off h
    simp only [List.length_cons] at h
    simp only [List.zipIdx_cons, List.foldl_cons]
    rw [ih (k + 1) (c.setIfInBounds (off + k) v) off (by simp; omega)]
    rw [Array.toList_setIfInBounds]
    apply List.ext_getElem?
    intro j
    simp only [List.getElem?_append, List.length_take, List.length_set, Array.length_toList, List.length_cons]
    have h1 : min (off + (k + 1)) c.size = off + (k + 1) := by omega
    have h2 : min (off + k) c.size = off + k := by omega
    rw [h1, h2]
    by_cases a : j < off + k
    · rw [if_pos (by omega), if_pos a, List.getElem?_take_of_lt (by omega), List.getElem?_take_of_lt a, List.getElem?_set_ne (by omega)]
    · by_cases b : j = off + k
      · subst b
        have q1 : off + k < off + (k + 1) := by omega
        have q2 : ¬ off + k < off + k := by omega
        have q3 : off + k - (off + k) < vs.length + 1 := by omega
        have q4 : off + k < c.toList.length := by rw [Array.length_toList]; omega
        rw [if_pos q1, if_neg q2, if_pos q3, List.getElem?_take_of_lt q1, List.getElem?_set_self q4, Nat.sub_self]
        rfl
      · rw [if_neg (by omega), if_neg a]
        obtain ⟨m, rfl⟩ : ∃ m, j = off + k + 1 + m := ⟨j - (off + k + 1), by omega⟩
        rw [show off + k + 1 + m - (off + (k + 1)) = m by omega, show off + k + 1 + m - (off + k) = m + 1 by omega]
        by_cases d : m < vs.length
        · rw [if_pos d, if_pos (by omega)]; rfl
        · rw [if_neg d, if_neg (by omega), List.getElem?_drop, List.getElem?_drop, List.getElem?_set_ne (by omega)]
          congr 1; omega

theorem afill_sound {E : Env} (place : Nat → Option (Nat × Nat)) : ∀ (ps : List (Nat × AV)) (qs : List (Nat × Value)) (cs : List AV) (c : Array Value) (r : List AV),
    PRels E ps qs → VRels E cs c.toList → afill place cs ps = some r → ∃ d, Instr.fill place c qs = some d ∧ VRels E r d.toList := by
  intro ps
  induction ps with
  | nil => intro qs cs c r hp hc h; cases hp; simp [afill] at h; subst h; exact ⟨c, rfl, hc⟩
  | cons p ps ih =>
    intro qs cs c r hp hc h
    cases hp with
    | cons hv ht =>
      rename_i i a v vs
      simp only [afill] at h
      split at h
      · simp at h
      · rename_i off size hpl
        split at h
        · rename_i hb
          have hlen := hv.cells.length
          have hcl := hc.length
          simp only [Array.length_toList] at hlen hcl
          have hz : (v.cells.zipIdx.foldl (fun cs (x : Value × Nat) => cs.setIfInBounds (off + x.2) x.1) c).toList = c.toList.take off ++ (v.cells.toList ++ c.toList.drop (off + v.cells.toList.length)) := by
            have := foldl_setAll v.cells.toList 0 c off (by simp; omega)
            rw [← Array.foldl_toList, Array.toList_zipIdx]
            simpa using this
          have hrel : VRels E (splice cs off a.cells) (v.cells.zipIdx.foldl (fun cs (x : Value × Nat) => cs.setIfInBounds (off + x.2) x.1) c).toList := by
            rw [hz]; exact hc.splice hv.cells off
          obtain ⟨d, h1, h2⟩ := ih vs _ _ r ht hrel h
          refine ⟨d, ?_, h2⟩
          simp only [Instr.fill, hpl]
          rw [if_neg (by simp; omega)]
          exact h1
        · simp at h

def aplaces (P : Program) : List Field → Option (List (Nat × Nat))
  | [] => some []
  | f :: fs => match asize P f.type, aplaces P fs with
    | some n, some r => some ((f.offset, n) :: r)
    | _, _ => none

theorem aplaces_eq {P : Program} : ∀ {fs : List Field} {r : List (Nat × Nat)}, aplaces P fs = some r → fs.mapM (fun f => (P.info? f.type).map fun i => (f.offset, i.size)) = some r
  | [], r, h => by simp [aplaces] at h; subst h; rfl
  | f :: fs, r, h => by
    simp only [aplaces] at h
    split at h
    · rename_i n r' h1 h2
      simp only [Option.some.injEq] at h; subst h
      simp only [asize, Option.map_eq_some_iff] at h1
      obtain ⟨i, hi, rfl⟩ := h1
      simp [List.mapM_cons, hi, aplaces_eq h2]
    · simp at h

def abuild (P : Program) (t : TypeId) (parts : List (Nat × AV)) : Option AV :=
  match azero P t with
  | none => none
  | some z => match P.underlying t with
    | some (.struct fs) => match aplaces P fs.toList with
      | some pl => (afill (fun i => pl[i]?) z.cells parts).map .agg
      | none => none
    | some (.array _ e) => match asize P e with
      | some n => (afill (fun i => some (i * n, n)) z.cells parts).map .agg
      | none => none
    | _ => none

theorem abuild_sound {P : Program} {E : Env} {t : TypeId} {ps : List (Nat × AV)} {qs : Array (Nat × Value)} {r : AV} (h : abuild P t ps = some r) (hp : PRels E ps qs.toList) : Yields P E (Instr.build t qs) r := by
  unfold abuild at h
  split at h
  · simp at h
  · rename_i z hz
    obtain ⟨zv, hzr, hzrun⟩ := run_azero E hz
    split at h
    · rename_i fs ht
      split at h
      · rename_i pl hpl
        simp only [Option.map_eq_some_iff] at h
        obtain ⟨cs, h1, rfl⟩ := h
        obtain ⟨d, h2, h3⟩ := afill_sound _ _ _ _ _ _ hp hzr.cells h1
        refine ⟨.agg d, .agg h3, fun w => ?_⟩
        have hpr := run_places (P := P) w fs.toList pl (aplaces_eq hpl)
        have hm : (fs.mapM (m := Sem) fun f => do pure (f.offset, ← sizeOf f.type)).run P w = .ok pl.toArray w := by
          rw [Array.mapM_eq_mapM_toList, Sem.run_map]
          simp only [bind_pure_comp]
          rw [hpr]; rfl
        have hfn : (fun i : Nat => pl.toArray[i]?) = (fun i : Nat => pl[i]?) := by funext i; simp
        have h2' : Instr.fill (fun i : Nat => pl.toArray[i]?) zv.cells qs.toList = some d := by rw [hfn]; exact h2
        simp only [Instr.build, Sem.run_bind, hzrun, Result.andThen_ok, run_underlying ht, hm, h2', Sem.run_pure]
      · simp at h
    · rename_i m e ht
      split at h
      · rename_i n hn
        simp only [Option.map_eq_some_iff] at h
        obtain ⟨cs, h1, rfl⟩ := h
        obtain ⟨d, h2, h3⟩ := afill_sound _ _ _ _ _ _ hp hzr.cells h1
        refine ⟨.agg d, .agg h3, fun w => ?_⟩
        simp only [Instr.build, Sem.run_bind, hzrun, Result.andThen_ok, run_underlying ht, run_asize hn, h2, Sem.run_pure]
      · simp at h
    · simp at h

def aextract (x : AV) (n : Nat) : Option AV := match x with
  | .tuple vs => vs[n]?
  | _ => none

theorem aextract_sound {P : Program} {E : Env} {x r : AV} {n : Nat} {u : Value} (h : aextract x n = some r) (hx : VRel E x u) : Yields P E (Instr.extract u n) r := by
  unfold aextract at h
  split at h
  · cases hx with | tuple hv =>
    obtain ⟨v, h1, h2⟩ := hv.get? h
    rw [Array.getElem?_toList] at h1
    exact ⟨v, h2, fun w => by simp [Instr.extract, h1]⟩
  · simp at h

def alen (P : Program) (t : TypeId) (x : AV) : Option AV := match P.underlying t, x with
  | some .string, .str s => some (.int .i64 s.length)
  | some (.slice _), .nilsl => some (.int .i64 0)
  | some (.slice _), .sl _ _ _ len _ _ => some (.int .i64 len)
  | some (.slice _), .vsl _ len => some (.int .i64 len)
  | some (.slice _), .csl _ len => some (.int .i64 len)
  | some (.array n _), _ => some (.int .i64 n)
  | some (.map _ _), .nilmap => some (.int .i64 0)
  | _, _ => none

theorem alen_sound {P : Program} {E : Env} {t ty : TypeId} {x r : AV} {u : Value} (h : alen P t x = some r) (hx : VRel E x u) : Yields P E (Builtin.len_ #[t] ty #[u]) r := by
  unfold alen at h
  split at h
  · rename_i ht; simp only [Option.some.injEq] at h; subst h; cases hx
    exact ⟨_, .int _ _, fun w => by rw [run_len_string w _ _ _ ht]; rfl⟩
  · rename_i ht; simp only [Option.some.injEq] at h; subst h; cases hx <;>
    exact ⟨_, .int _ _, fun w => by simp [Builtin.len_, run_underlying ht, goInt]⟩
  · rename_i ht; simp only [Option.some.injEq] at h; subst h; cases hx <;>
    exact ⟨_, .int _ _, fun w => by simp [Builtin.len_, run_underlying ht, goInt]⟩
  · rename_i ht; simp only [Option.some.injEq] at h; subst h; cases hx <;>
    exact ⟨_, .int _ _, fun w => by simp [Builtin.len_, run_underlying ht, goInt]⟩
  · rename_i ht; simp only [Option.some.injEq] at h; subst h; cases hx <;>
    exact ⟨_, .int _ _, fun w => by simp [Builtin.len_, run_underlying ht, goInt]⟩
  · rename_i ht; simp only [Option.some.injEq] at h; subst h
    exact ⟨_, .int _ _, fun w => by simp [Builtin.len_, run_underlying ht, goInt]⟩
  · rename_i ht; simp only [Option.some.injEq] at h; subst h; cases hx <;>
    exact ⟨_, .int _ _, fun w => by simp [Builtin.len_, run_underlying ht, goInt]⟩
  · simp at h

def acap (P : Program) (t : TypeId) (x : AV) : Option AV := match P.underlying t, x with
  | some (.slice _), .nilsl => some (.int .i64 0)
  | some (.slice _), .sl _ _ _ _ cap false => some (.int .i64 cap)
  | some (.slice _), .csl _ len => some (.int .i64 len)
  | some (.array n _), _ => some (.int .i64 n)
  | _, _ => none

theorem acap_sound {P : Program} {E : Env} {t ty : TypeId} {x r : AV} {u : Value} (h : acap P t x = some r) (hx : VRel E x u) : Yields P E (Builtin.cap_ #[t] ty #[u]) r := by
  unfold acap at h
  split at h
  · rename_i ht; simp only [Option.some.injEq] at h; subst h; cases hx
    exact ⟨_, .int _ _, fun w => by simp [Builtin.cap_, run_underlying ht, goInt]⟩
  · rename_i ht; simp only [Option.some.injEq] at h; subst h; cases hx with | sl a b c d e =>
    have := d rfl; subst this
    exact ⟨_, .int _ _, fun w => by simp [Builtin.cap_, run_underlying ht, goInt]⟩
  · rename_i ht; simp only [Option.some.injEq] at h; subst h; cases hx
    exact ⟨_, .int _ _, fun w => by simp [Builtin.cap_, run_underlying ht, goInt]⟩
  · rename_i ht; simp only [Option.some.injEq] at h; subst h
    exact ⟨_, .int _ _, fun w => by simp [Builtin.cap_, run_underlying ht, goInt]⟩
  · simp at h

def amin : AV → List AV → Option AV
  | a, [] => some a
  | .int k x, .int k' y :: r => if k = k' then amin (.int k (if y < x then y else x)) r else none
  | _, _ => none
def amax : AV → List AV → Option AV
  | a, [] => some a
  | .int k x, .int k' y :: r => if k = k' then amax (.int k (if y > x then y else x)) r else none
  | _, _ => none

theorem amin_sound {P : Program} {E : Env} : ∀ (as_ : List AV) (vs : List Value) (a r : AV) (v : Value), amin a as_ = some r → VRel E a v → VRels E as_ vs → ∃ u, VRel E r u ∧ ∀ w, (vs.foldlM Builtin.min2 v).run P w = .ok u w
  | [], _, a, r, v, h, hv, hs => by cases hs; simp [amin] at h; subst h; exact ⟨v, hv, fun w => rfl⟩
  | b :: as_, _, a, r, v, h, hv, hs => by
    cases hs with | cons hb ht =>
    unfold amin at h
    split at h
    · rename_i h1; simp at h1
    · rename_i k x k' y rest h1
      simp only [List.cons.injEq] at h1
      obtain ⟨rfl, rfl⟩ := h1
      split at h
      · rename_i hk
        subst hk
        cases hv; cases hb
        obtain ⟨u, g1, g2⟩ := amin_sound (P := P) _ _ _ r _ h (.int _ _) ht
        exact ⟨u, g1, fun w => by simpa [List.foldlM_cons, Builtin.min2] using g2 w⟩
      · simp at h
    · simp at h

theorem amax_sound {P : Program} {E : Env} : ∀ (as_ : List AV) (vs : List Value) (a r : AV) (v : Value), amax a as_ = some r → VRel E a v → VRels E as_ vs → ∃ u, VRel E r u ∧ ∀ w, (vs.foldlM Builtin.max2 v).run P w = .ok u w
  | [], _, a, r, v, h, hv, hs => by cases hs; simp [amax] at h; subst h; exact ⟨v, hv, fun w => rfl⟩
  | b :: as_, _, a, r, v, h, hv, hs => by
    cases hs with | cons hb ht =>
    unfold amax at h
    split at h
    · rename_i h1; simp at h1
    · rename_i k x k' y rest h1
      simp only [List.cons.injEq] at h1
      obtain ⟨rfl, rfl⟩ := h1
      split at h
      · rename_i hk
        subst hk
        cases hv; cases hb
        obtain ⟨u, g1, g2⟩ := amax_sound (P := P) _ _ _ r _ h (.int _ _) ht
        exact ⟨u, g1, fun w => by simpa [List.foldlM_cons, Builtin.max2] using g2 w⟩
      · simp at h
    · simp at h

/-! ### operands -/

def aval (G : Nat → Option AV) (T : Nat → AV) : Operand → Option AV
  | .tmp t => some (T t)
  | .const v => ofConst v
  | .global g => G g
  | .func f => some (.func (.func f) [] [])

def avals (ρ : Operand → Option AV) : List Operand → Option (List AV)
  | [] => some []
  | x :: xs => match ρ x, avals ρ xs with
    | some a, some as_ => some (a :: as_)
    | _, _ => none

def apairs (ρ : Operand → Option AV) : List (Nat × Operand) → Option (List (Nat × AV))
  | [] => some []
  | (i, x) :: xs => match ρ x, apairs ρ xs with
    | some a, some as_ => some ((i, a) :: as_)
    | _, _ => none

def Operands (E : Env) (ρ : Operand → Option AV) (σ : Operand → Value) (xs : List Operand) : Prop := ∀ x ∈ xs, ∀ a, ρ x = some a → VRel E a (σ x)

theorem avals_sound {E : Env} {ρ : Operand → Option AV} {σ : Operand → Value} : ∀ {xs : List Operand} {as_ : List AV}, Operands E ρ σ xs → avals ρ xs = some as_ → VRels E as_ (xs.map σ)
  | [], as_, _, h => by simp [avals] at h; subst h; exact .nil
  | x :: xs, as_, hr, h => by
    simp only [avals] at h
    split at h
    · rename_i a as' h1 h2
      simp only [Option.some.injEq] at h; subst h
      exact .cons (hr x (by simp) a h1) (avals_sound (fun y hy => hr y (by simp [hy])) h2)
    · simp at h

theorem apairs_sound {E : Env} {ρ : Operand → Option AV} {σ : Operand → Value} : ∀ {xs : List (Nat × Operand)} {as_ : List (Nat × AV)}, Operands E ρ σ (xs.map (·.2)) → apairs ρ xs = some as_ → PRels E as_ (xs.map fun (i, x) => (i, σ x))
  | [], as_, _, h => by simp [apairs] at h; subst h; exact .nil
  | (i, x) :: xs, as_, hr, h => by
    simp only [apairs] at h
    split at h
    · rename_i a as' h1 h2
      simp only [Option.some.injEq] at h; subst h
      exact .cons (hr x (by simp) a h1) (apairs_sound (fun y hy => hr y (by simp at hy ⊢; exact .inr hy)) h2)
    · simp at h

def aopt (ρ : Operand → Option AV) : Option Operand → Option (Option AV)
  | none => some none
  | some x => (ρ x).map some

theorem aopt_sound {E : Env} {ρ : Operand → Option AV} {σ : Operand → Value} {x : Option Operand} {a : Option AV} (hr : Operands E ρ σ x.toList) (h : aopt ρ x = some a) : ORels E a (x.map σ) := by
  cases x with
  | none => simp [aopt] at h; subst h; exact .none
  | some x =>
    simp only [aopt, Option.map_eq_some_iff] at h
    obtain ⟨b, h1, rfl⟩ := h
    exact .some (hr x (by simp) b h1)

def apure (P : Program) (ρ : Operand → Option AV) (o : Oper) : Option AV :=
  match o.op with
  | .move x | .assign x => ρ x
  | .pick c a b => match ρ c with
    | some (.bool true) => ρ a
    | some (.bool false) => ρ b
    | _ => none
  | .nilCheck x => match ρ x with
    | some (.ptr i o) => some (.ptr i o)
    | some (.vptr cs) => some (.vptr cs)
    | some (.func (.func f) a c) => some (.func (.func f) a c)
    | _ => none
  | .binOp op t x y _ => match ρ x, ρ y with
    | some a, some b => abin P op t x y a b
    | _, _ => none
  | .unOp op _ x => match ρ x with
    | some a => aun op a
    | none => none
  | .convert s d x => match ρ x with
    | some a => aconv P s d a
    | none => none
  | .makeInterface t x => match ρ x, P.concrete t with
    | some a, true => some (.iface t a)
    | _, _ => none
  | .makeFunc fn f c => match avals ρ f.toList, avals ρ c.toList with
    | some fs, some cs => some (.func fn fs cs)
    | _, _ => none
  | .slice t x lo hi mx => match ρ x, aopt ρ lo, aopt ρ hi, aopt ρ mx with
    | some a, some l, some h, some m => match P.underlying t with
      | some (.array _ _) => none
      | _ => aslice P t a l h m
    | _, _, _, _ => none
  | .fieldAddr t x f => match ρ x with
    | some a => afieldAddr P t a f
    | none => none
  | .field t x f => match ρ x with
    | some a => afield P t a f
    | none => none
  | .indexAddr t x ix => match ρ x, ρ ix with
    | some a, some b => aindexAddr P t a b
    | _, _ => none
  | .index t x ix => match ρ x, ρ ix with
    | some a, some b => aindex P t a b
    | _, _ => none
  | .extract x n => match ρ x with
    | some a => aextract a n
    | none => none
  | .build t ps => match apairs ρ ps.toList with
    | some qs => abuild P t qs
    | none => none
  | .call c => match c.callee, c.args.toList with
    | .builtin .len, [x] => match ρ x, c.argTypes with
      | some a, ⟨[t]⟩ => alen P t a
      | _, _ => none
    | .builtin .cap, [x] => match ρ x, c.argTypes with
      | some a, ⟨[t]⟩ => acap P t a
      | _, _ => none
    | .builtin .min, xs => match avals ρ xs with
      | some (a :: as_) => amin a as_
      | _ => none
    | .builtin .max, xs => match avals ρ xs with
      | some (a :: as_) => amax a as_
      | _ => none
    | _, _ => none
  | _ => none

def Gives (P : Program) (E : Env) (σ : Operand → Value) (o : Oper) (r : AV) : Prop := ∃ v, VRel E r v ∧ ∀ w, (execOp σ o).run P w = .ok (.value v) w

theorem Gives.of {P : Program} {E : Env} {σ : Operand → Value} {o : Oper} {r : AV} {s : Sem Value} (h : Yields P E s r) (e : execOp σ o = (do pure (.value (← s)))) : Gives P E σ o r := by
  obtain ⟨v, h1, h2⟩ := h
  exact ⟨v, h1, fun w => by rw [e]; simp [h2 w]⟩

theorem apure_sound {P : Program} {E : Env} {ρ : Operand → Option AV} {σ : Operand → Value} {o : Oper} {r : AV} (hr : Operands E ρ σ o.op.operands.toList) (h : apure P ρ o = some r) : Gives P E σ o r := by
  obtain ⟨dst, op, ty, pos, after, guard⟩ := o
  cases op <;> simp only [apure] at h <;> simp only [Op.operands] at hr <;> try (simp at h; done)
  case move x => exact ⟨σ x, hr x (by simp) r h, fun w => rfl⟩
  case assign x => exact ⟨σ x, hr x (by simp) r h, fun w => rfl⟩
  case pick c a b =>
    split at h <;> try (simp at h; done)
    · rename_i hc
      have := hr c (by simp) _ hc
      refine ⟨σ a, hr a (by simp) r h, fun w => ?_⟩
      cases hcv : σ c <;> rw [hcv] at this <;> cases this
      simp [execOp, hcv, asBool]
    · rename_i hc
      have := hr c (by simp) _ hc
      refine ⟨σ b, hr b (by simp) r h, fun w => ?_⟩
      cases hcv : σ c <;> rw [hcv] at this <;> cases this
      simp [execOp, hcv, asBool]
  case nilCheck x =>
    split at h <;> try (simp at h; done)
    all_goals
      rename_i hx
      have hv := hr x (by simp) _ hx
      simp only [Option.some.injEq] at h; subst h
      refine ⟨σ x, hv, fun w => ?_⟩
      generalize hs : σ x = sx at hv
      cases hv
      simp [execOp, hs]
  case binOp bop t x y yt =>
    split at h <;> try (simp at h; done)
    rename_i a b ha hb
    exact .of (abin_sound h (hr x (by simp) _ ha) (hr y (by simp) _ hb)) rfl
  case unOp uop t x =>
    split at h <;> try (simp at h; done)
    rename_i a ha
    exact .of (aun_sound h (hr x (by simp) _ ha)) rfl
  case convert s d x =>
    split at h <;> try (simp at h; done)
    rename_i a ha
    exact .of (aconv_sound h (hr x (by simp) _ ha)) rfl
  case makeInterface t x =>
    split at h <;> try (simp at h; done)
    rename_i a ha hc
    simp only [Option.some.injEq] at h; subst h
    exact .of ⟨_, .iface (hr x (by simp) _ ha), fun w => run_makeInterface w t _ hc⟩ rfl
  case makeFunc fn f c =>
    split at h <;> try (simp at h; done)
    rename_i fs cs hf hc
    simp only [Option.some.injEq] at h; subst h
    refine .of ⟨.func fn (f.map σ) (c.map σ), .func ?_ ?_, fun w => rfl⟩ rfl
    · have := avals_sound (E := E) (σ := σ) (fun x hx => hr x (by simp at hx ⊢; exact .inl hx)) hf
      simpa using this
    · have := avals_sound (E := E) (σ := σ) (fun x hx => hr x (by simp at hx ⊢; exact .inr hx)) hc
      simpa using this
  case slice t x lo hi mx =>
    split at h <;> try (simp at h; done)
    rename_i a l hh m ha hl hhh hm
    have hn : ∀ n e, P.underlying t ≠ some (.array n e) := fun n e he => by rw [he] at h; simp at h
    have h' : aslice P t a l hh m = some r := by
      split at h
      · simp at h
      · exact h
    obtain ⟨v, h1, h2⟩ := aslice_sound h' (hr x (by simp) _ ha) (aopt_sound (σ := σ) (fun y hy => hr y (by simp at hy ⊢; simp [hy])) hl)
      (aopt_sound (σ := σ) (fun y hy => hr y (by simp at hy ⊢; simp [hy])) hhh) (aopt_sound (σ := σ) (fun y hy => hr y (by simp at hy ⊢; simp [hy])) hm)
    refine .of ⟨v, h1, fun w => ?_⟩ rfl
    have e1 : (Instr.sliceAt t (σ x) (lo.map σ) (hi.map σ) (mx.map σ)).run P w = (Instr.slice t (σ x) (lo.map σ) (hi.map σ) (mx.map σ)).run P w := by
      cases hu : P.underlying t with
      | none => simp [aslice, hu] at h'
      | some d =>
        simp only [Instr.sliceAt, Sem.run_bind, run_underlying hu, Result.andThen_ok]
        cases d <;> first | rfl | exact absurd hu (hn _ _)
    rw [e1]; exact h2 w
  case fieldAddr t x f =>
    split at h <;> try (simp at h; done)
    rename_i a ha
    exact .of (afieldAddr_sound h (hr x (by simp) _ ha)) rfl
  case field t x f =>
    split at h <;> try (simp at h; done)
    rename_i a ha
    exact .of (afield_sound h (hr x (by simp) _ ha)) rfl
  case indexAddr t x ix =>
    split at h <;> try (simp at h; done)
    rename_i a b ha hb
    exact .of (aindexAddr_sound h (hr x (by simp) _ ha) (hr ix (by simp) _ hb)) rfl
  case index t x ix =>
    split at h <;> try (simp at h; done)
    rename_i a b ha hb
    exact .of (aindex_sound h (hr x (by simp) _ ha) (hr ix (by simp) _ hb)) rfl
  case extract x n =>
    split at h <;> try (simp at h; done)
    rename_i a ha
    exact .of (aextract_sound h (hr x (by simp) _ ha)) rfl
  case build t ps =>
    split at h <;> try (simp at h; done)
    rename_i qs hq
    have hp := apairs_sound (E := E) (σ := σ) (fun x hx => hr x (by exact hx)) hq
    exact .of (abuild_sound (qs := ps.map fun (i, x) => (i, σ x)) h (by simpa using hp)) rfl
  case call c =>
    obtain ⟨callee, args, argTypes⟩ := c
    have harg : ∀ x ∈ args.toList, x ∈ (Call.operands { callee, args, argTypes }).toList := fun x hx => by
      simp only [Call.operands, Array.toList_append, List.mem_append]; exact .inr hx
    simp only at h
    split at h
    · rename_i x hx
      split at h <;> try (simp at h; done)
      rename_i a t ha
      have hargs : args = #[x] := by cases args; simp_all
      subst hargs
      exact .of (s := Builtin.len_ #[t] ty (#[x].map σ)) (by rw [List.map_toArray]; exact alen_sound (ty := ty) h (hr x (harg x (by simp)) _ ha)) rfl
    · rename_i x hx
      split at h <;> try (simp at h; done)
      rename_i a t ha
      have hargs : args = #[x] := by cases args; simp_all
      subst hargs
      exact .of (s := Builtin.cap_ #[t] ty (#[x].map σ)) (by rw [List.map_toArray]; exact acap_sound (ty := ty) h (hr x (harg x (by simp)) _ ha)) rfl
    · split at h <;> try (simp at h; done)
      rename_i a as_ ha
      have hv := avals_sound (E := E) (σ := σ) (fun y hy => hr y (harg y hy)) ha
      cases hm : args.toList.map σ with
      | nil => rw [hm] at hv; cases hv
      | cons v vs =>
        rw [hm] at hv
        cases hv with | cons h1 h2 =>
        obtain ⟨u, g1, g2⟩ := amin_sound (P := P) _ _ _ r _ h h1 h2
        refine .of (s := Builtin.min_ argTypes ty (args.map σ)) ⟨u, g1, fun w => ?_⟩ rfl
        simp only [Builtin.min_, Array.toList_map, hm]
        exact g2 w
    · split at h <;> try (simp at h; done)
      rename_i a as_ ha
      have hv := avals_sound (E := E) (σ := σ) (fun y hy => hr y (harg y hy)) ha
      cases hm : args.toList.map σ with
      | nil => rw [hm] at hv; cases hv
      | cons v vs =>
        rw [hm] at hv
        cases hv with | cons h1 h2 =>
        obtain ⟨u, g1, g2⟩ := amax_sound (P := P) _ _ _ r _ h h1 h2
        refine .of (s := Builtin.max_ argTypes ty (args.map σ)) ⟨u, g1, fun w => ?_⟩ rfl
        simp only [Builtin.max_, Array.toList_map, hm]
        exact g2 w
    · simp at h

end Go.Abs

/-
  A simplified meaning for Go code: maps (keys: whole numbers, strings, bools).
-/

namespace Go.Abs
open Go

/-- Are two keys alike? -/
def asame : TypeDesc → AV → AV → Option Bool
  | .int _, .int k a, .int k' b => if k = k' then some (a == b) else none
  | .string, .str a, .str b => some (a == b)
  | .bool, .bool a, .bool b => some (a == b)
  | _, _, _ => none

theorem asame_sound {E : Env} {d : TypeDesc} {a b : AV} {u v : Value} {r : Bool} (h : asame d a b = some r) (ha : VRel E a u) (hb : VRel E b v) : Instr.sameNow d u v = some r := by
  unfold asame at h
  split at h
  · split at h
    · rename_i hk
      cases ha; cases hb
      subst hk
      simpa [Instr.sameNow] using h
    · simp at h
  · cases ha; cases hb
    rename_i a b
    simp only [Option.some.injEq] at h; subst h
    simp only [Instr.sameNow, Option.some.injEq]
    rw [beq_toListBytes, ByteArray.toList_mk, ByteArray.toList_mk]
  · cases ha; cases hb
    simpa [Instr.sameNow] using h
  · simp at h

def afind (d : TypeDesc) (k : AV) : List (AV × AV) → Nat → Option (Option (Nat × AV))
  | [], _ => some none
  | (a, v) :: es, i => match asame d k a with
    | some true => some (some (i, v))
    | some false => afind d k es (i + 1)
    | none => none

theorem afind_sound {E : Env} {d : TypeDesc} {k : AV} {u : Value} (hk : VRel E k u) : ∀ {es : List (AV × AV)} {ents : List MapEntry} {i : Nat} {r : Option (Nat × AV)}, afind d k es i = some r →
    VRels E (es.map Prod.fst) (ents.map MapEntry.key) → VRels E (es.map Prod.snd) (ents.map MapEntry.val) →
    match r with
    | none => Instr.findNow d u ents i = some none
    | some (j, a) => ∃ e, Instr.findNow d u ents i = some (some (j, e.val)) ∧ i ≤ j ∧ ents[j - i]? = some e ∧ VRel E a e.val ∧ Instr.sameNow d u e.key = some true
  | [], ents, i, r, h, h1, h2 => by
    cases ents with
    | nil => simp only [afind, Option.some.injEq] at h; subst h; rfl
    | cons e ents => cases h1
  | (a, v) :: es, ents, i, r, h, h1, h2 => by
    cases ents with
    | nil => cases h1
    | cons e ents =>
      simp only [List.map_cons] at h1 h2
      cases h1 with | cons ha h1 =>
      cases h2 with | cons hv h2 =>
      simp only [afind] at h
      split at h
      · rename_i hs
        simp only [Option.some.injEq] at h; subst h
        have hh := asame_sound hs hk ha
        exact ⟨e, by simp only [Instr.findNow, hh], Nat.le_refl _, by simp, hv, hh⟩
      · rename_i hs
        have hh := asame_sound hs hk ha
        have ih := afind_sound hk h h1 h2
        cases r with
        | none => simp only [Instr.findNow, hh]; exact ih
        | some p =>
          obtain ⟨j, b⟩ := p
          obtain ⟨e', g1, g2, g3, g4, g5⟩ := ih
          refine ⟨e', by simp only [Instr.findNow, hh]; exact g1, by omega, ?_, g4, g5⟩
          have : j - i = (j - (i + 1)) + 1 := by omega
          rw [this, List.getElem?_cons_succ]; exact g3
      · simp at h

/-- Keys that are compared at once. -/
def keyed : TypeDesc → Bool
  | .int _ | .string | .bool => true
  | _ => false

theorem run_checkKey {P : Program} {t : TypeId} {d : TypeDesc} (ht : P.underlying t = some d) (hd : keyed d = true) (b : Bool) (v : Value) (w : World) : (Instr.checkKey b 10000 t v).run P w = .ok () w := by
  have key : ∀ n : Nat, (Instr.checkKey b (n + 1) t v).run P w = .ok () w := fun n => by
    unfold Instr.checkKey
    simp only [Sem.run_bind, run_underlying ht, Result.andThen_ok]
    cases d <;> simp [keyed] at hd <;> rfl
  exact key 9999

theorem run_findKey {P : Program} {t : TypeId} {d : TypeDesc} (ht : P.underlying t = some d) {k : Value} {es : List MapEntry} {r : Option (Nat × Value)} (h : Instr.findNow d k es 0 = some r) (w : World) : (Instr.findKey t k es).run P w = .ok r w := by
  simp only [Instr.findKey, Sem.run_bind, run_underlying ht, Result.andThen_ok, h, Sem.run_pure]

theorem run_getMap {P : Program} {w : World} {b : Nat} {es : Array MapEntry} {clk : Nat} (h : w.heap[b]? = some (.map es clk)) : (getObj b).run P w = .ok (.map es clk) w := by
  simp [getObj, Sem.run, h]

def atup (ok : Bool) (v : AV) (b : Bool) : AV := if ok then .tuple [v, .bool b] else v

/-- x[k] -/
def alookup (P : Program) (t : TypeId) (get : Nat → Option AObj) (x k : AV) (ok : Bool) : Option AV := match P.underlying t with
  | some (.map kt et) => match P.underlying kt with
    | some d => if keyed d then match x with
        | .nilmap => (azero P et).map fun z => atup ok z false
        | .map i => match get i with
          | some (.map es) => match afind d k es 0 with
            | some (some (_, v)) => some (atup ok v true)
            | some none => (azero P et).map fun z => atup ok z false
            | none => none
          | _ => none
        | _ => none
      else none
    | none => none
  | _ => none

theorem atup_rel {E : Env} {ok b : Bool} {a : AV} {v : Value} (h : VRel E a v) : VRel E (atup ok a b) (if ok then .tuple #[v, .bool b] else v) := by
  unfold atup
  cases ok with
  | true => exact .tuple (.cons h (.cons (.bool b) .nil))
  | false => exact h

theorem Rel.mapOf {E : Env} {H : AHeap} {w : World} (h : Rel E H w) {i : Nat} {es : List (AV × AV)} (hi : H.get i = some (.map es)) {p : Place} (hp : E.φ i = some p) :
    ∃ ents clk, w.heap[p.b]? = some (.map ents clk) ∧ VRels E (es.map Prod.fst) (ents.toList.map MapEntry.key) ∧ VRels E (es.map Prod.snd) (ents.toList.map MapEntry.val) ∧ E.K p.b = none ∧ E.F p.b = none := by
  obtain ⟨q, ob, h1, h2, h3, h4, ents, clk, rfl, g1, g2⟩ := h.live i _ hi
  rw [hp] at h1; cases h1
  exact ⟨ents, clk, h4, g1, g2, h2, h3⟩

theorem alookup_sound {P : Program} {E : Env} {H : AHeap} {w : World} (hR : Rel E H w) {t : TypeId} {x k r : AV} {ok : Bool} {u v : Value} (h : alookup P t H.get x k ok = some r) (hx : VRel E x u) (hk : VRel E k v) :
    ∃ y, VRel E r y ∧ (Instr.lookup t u v ok).run P w = .ok y w := by
  unfold alookup at h
  split at h <;> try (simp at h; done)
  rename_i kt et ht
  split at h <;> try (simp at h; done)
  rename_i d hd
  split at h <;> try (simp at h; done)
  rename_i hkd
  split at h
  · simp only [Option.map_eq_some_iff] at h
    obtain ⟨z, hz, rfl⟩ := h
    obtain ⟨zv, h1, h2⟩ := run_azero E hz
    cases hx
    have hf : Instr.findNow d v [] 0 = some none := rfl
    refine ⟨_, atup_rel h1, ?_⟩
    simp only [Instr.lookup, Sem.run_bind, run_underlying ht, Result.andThen_ok, Sem.run_pure]
    rw [run_checkKey hd hkd]
    simp only [Result.andThen_ok]
    have := run_findKey (P := P) hd hf w
    simp only [Sem.run_bind, this, Result.andThen_ok, h2, Sem.run_pure]
  · rename_i i
    split at h <;> try (simp at h; done)
    rename_i es hes
    cases hx with | map hp =>
    rename_i p
    obtain ⟨ents, clk, g1, g2, g3, _, _⟩ := hR.mapOf hes hp
    split at h <;> try (simp at h; done)
    · rename_i j a hf
      simp only [Option.some.injEq] at h; subst h
      obtain ⟨e, k1, _, _, k4, _⟩ := afind_sound hk hf g2 g3
      refine ⟨_, atup_rel k4, ?_⟩
      simp only [Instr.lookup, Sem.run_bind, run_underlying ht, Result.andThen_ok, run_getMap g1, Sem.run_pure]
      rw [run_checkKey hd hkd]
      simp only [Sem.run_bind, run_findKey (P := P) hd k1, Result.andThen_ok, Sem.run_pure]
    · rename_i hf
      simp only [Option.map_eq_some_iff] at h
      obtain ⟨z, hz, rfl⟩ := h
      obtain ⟨zv, h1, h2⟩ := run_azero E hz
      have k1 := afind_sound hk hf g2 g3
      simp only at k1
      refine ⟨_, atup_rel h1, ?_⟩
      simp only [Instr.lookup, Sem.run_bind, run_underlying ht, Result.andThen_ok, run_getMap g1, Sem.run_pure]
      rw [run_checkKey hd hkd]
      simp only [Sem.run_bind, run_findKey (P := P) hd k1, Result.andThen_ok, h2, Sem.run_pure]
  · simp at h

/-- len(m) -/
def amaplen (P : Program) (t : TypeId) (get : Nat → Option AObj) (x : AV) : Option AV := match P.underlying t, x with
  | some (.map _ _), .map i => match get i with
    | some (.map es) => some (.int .i64 es.length)
    | _ => none
  | _, _ => none

theorem amaplen_sound {P : Program} {E : Env} {H : AHeap} {w : World} (hR : Rel E H w) {t ty : TypeId} {x r : AV} {u : Value} (h : amaplen P t H.get x = some r) (hx : VRel E x u) : ∃ y, VRel E r y ∧ (Builtin.len_ #[t] ty #[u]).run P w = .ok y w := by
  unfold amaplen at h
  split at h <;> try (simp at h; done)
  rename_i kt et i ht
  split at h <;> try (simp at h; done)
  rename_i es hes
  simp only [Option.some.injEq] at h; subst h
  cases hx with | map hp =>
  rename_i p
  obtain ⟨ents, clk, g1, g2, g3, _, _⟩ := hR.mapOf hes hp
  have hl := g2.length
  simp only [List.length_map, Array.length_toList] at hl
  exact ⟨_, .int _ _, by simp [Builtin.len_, run_underlying ht, run_getMap g1, goInt, hl]⟩

end Go.Abs

/-
  A simplified meaning for Go code, eighth part: what reads memory, what lays a new block.
-/



namespace Go.Abs
open Go

/-! ### reads -/

/-- What an address leads to: the cells from there on. -/
def aat (get : Nat → Option AObj) : AV → Option (List AV)
  | .ptr i o => match get i with
    | some (.cells cs) => if o ≤ cs.length then some (cs.drop o) else none
    | _ => none
  | .vptr cs => some cs
  | _ => none

def acut (P : Program) (t : TypeId) (cs : List AV) : Option AV := match aagg P t, asize P t with
  | some true, some n => if n ≤ cs.length then some (.agg (cs.take n)) else none
  | some false, some _ => cs[0]?
  | _, _ => none

theorem run_loadVar_of {P : Program} {E : Env} {t : TypeId} {B o : Nat} {cs : List AV} {r : AV} {w : World} (h : acut P t cs = some r)
    (hrd : ∀ n, n ≤ cs.length → ∃ vs, (loadCells ⟨B, o, none⟩ n).run P w = .ok vs.toArray w ∧ VRels E (cs.take n) vs)
    (h1 : ∀ a, cs[0]? = some a → ∃ v, w.cell? ⟨B, o, none⟩ = some v ∧ VRel E a v) :
    ∃ v, VRel E r v ∧ (loadVar t ⟨B, o, none⟩).run P w = .ok v w := by
  unfold acut at h
  split at h
  · rename_i n ha hn
    split at h
    · rename_i hl
      simp only [Option.some.injEq] at h; subst h
      obtain ⟨vs, g1, g2⟩ := hrd n hl
      refine ⟨.agg vs.toArray, .agg g2, ?_⟩
      simp [loadVar, run_aagg ha, run_asize hn, g1]
    · simp at h
  · rename_i n ha hn
    obtain ⟨v, g1, g2⟩ := h1 r h
    refine ⟨v, g2, ?_⟩
    simp [loadVar, run_aagg ha, g1]
  · simp at h

theorem aat_load {P : Program} {E : Env} {H : AHeap} {w : World} (hR : Rel E H w) {t : TypeId} {x : AV} {cs : List AV} {r : AV} {u : Value} (ha : aat H.get x = some cs) (hc : acut P t cs = some r) (hx : VRel E x u) :
    ∃ v, VRel E r v ∧ (Instr.loadAt t u).run P w = .ok v w := by
  unfold aat at ha
  split at ha
  · rename_i i o
    split at ha
    · rename_i cs0 hi
      split at ha
      · rename_i hl
        simp only [Option.some.injEq] at ha; subst ha
        cases hx with | ptr hp =>
        rename_i p
        obtain ⟨v, g1, g2⟩ := run_loadVar_of (P := P) (E := E) (B := p.b) (o := p.s + o) (w := w) hc
          (fun n hn => by
            obtain ⟨vs, k1, k2⟩ := hR.reads P hi hp o n (by simp at hn; omega)
            exact ⟨vs, k1, k2⟩)
          (fun a ha => hR.cell hi hp (o := o) (by rw [List.getElem?_drop] at ha; simpa using ha))
        exact ⟨v, g1, by simp [Instr.loadAt, Instr.sureAddr, g2]⟩
      · simp at ha
    · simp at ha
  · simp only [Option.some.injEq] at ha; subst ha
    cases hx with | vptr hK hv =>
    rename_i B o vs
    obtain ⟨v, g1, g2⟩ := run_loadVar_of (P := P) (E := E) (B := B) (o := o) (w := w) hc
      (fun n hn => ⟨vs.take n, InK.reads hR P hK n (by rw [hv.length]; exact hn), hv.take n⟩)
      (fun a ha => by
        obtain ⟨v, k1, k2⟩ := hv.get? ha
        exact ⟨v, InK.read1 hR hK k1, k2⟩)
    exact ⟨v, g1, by simp [Instr.loadAt, Instr.sureAddr, g2]⟩
  · simp at ha

def abytes : List AV → Option (List UInt8)
  | [] => some []
  | .int .u8 n :: r => match abytes r with
    | some bs => some (UInt8.ofNat n.toNat :: bs)
    | none => none
  | _ => none

theorem abytes_sound {E : Env} : ∀ {as_ : List AV} {vs : List Value} {bs : List UInt8}, abytes as_ = some bs → VRels E as_ vs → ∃ ns : List Int, vs = ns.map (Value.int .u8) ∧ bs = ns.map fun n => UInt8.ofNat n.toNat
  | [], _, bs, h, hv => by cases hv; simp [abytes] at h; subst h; exact ⟨[], rfl, rfl⟩
  | a :: as_, _, bs, h, hv => by
    cases hv with | cons h1 h2 =>
    unfold abytes at h
    split at h
    · rename_i h3; simp at h3
    · rename_i n r h3
      simp only [List.cons.injEq] at h3
      obtain ⟨rfl, rfl⟩ := h3
      split at h
      · rename_i bs' hb
        simp only [Option.some.injEq] at h; subst h
        cases h1
        obtain ⟨ns, e1, e2⟩ := abytes_sound hb h2
        exact ⟨n :: ns, by rw [e1]; rfl, by rw [e2]; rfl⟩
      · simp at h
    · simp at h

theorem foldl_push : ∀ (ns : List Int) (b : List UInt8), (ns.foldl (fun r n => r.push (UInt8.ofNat n.toNat)) (ByteArray.mk b.toArray)) = ByteArray.mk (b ++ ns.map fun n => UInt8.ofNat n.toNat).toArray
  | [], b => by simp
  | n :: ns, b => by
    simp only [List.foldl_cons, List.map_cons]
    have : (ByteArray.mk b.toArray).push (UInt8.ofNat n.toNat) = ByteArray.mk (b ++ [UInt8.ofNat n.toNat]).toArray := by
      simp [ByteArray.push]
    rw [this, foldl_push ns]
    simp

/-- The cells that a slice's first n elements, or a string's first n bytes, are. -/
def afirst (get : Nat → Option AObj) (z n : Nat) : AV → Option (List AV)
  | .nilsl => if n = 0 then some [] else none
  | .sl i o _ _ _ _ => match get i with
    | some (.cells cs) => if o + n * z ≤ cs.length then some ((cs.drop o).take (n * z)) else none
    | _ => none
  | .vsl cs _ => if n * z ≤ cs.length then some (cs.take (n * z)) else none
  | .str s => if n = s.length then some (s.map fun b => .int .u8 b.toNat) else none
  | _ => none

theorem VRels.bytes {E : Env} : ∀ (s : List UInt8), VRels E (s.map fun b => .int .u8 b.toNat) (s.map fun b => Value.int .u8 b.toNat)
  | [] => .nil
  | _ :: s => .cons (.int _ _) (VRels.bytes s)

theorem Rel.heapEq {E : Env} {H : AHeap} {w w' : World} (hR : Rel E H w) (hw : w'.heap = w.heap) : Rel { E with os := w'.os, out := w'.output } H w' :=
  ⟨rfl, rfl, fun B o hb => by rw [hw]; exact hR.K B o hb, fun B o hb => by rw [hw]; exact hR.F B o hb, hR.KF, hR.dom, fun i x hi => by
    obtain ⟨p, ob, g1, g2, g3, g4, g5⟩ := hR.live i x hi
    exact ⟨p, ob, g1, g2, g3, by rw [hw]; exact g4, ORel.mono (E := E) (E' := { E with os := w'.os, out := w'.output }) ⟨fun _ _ h => h, fun _ _ h => h⟩ g5⟩, hR.inj⟩

/-- The cells of a live block, read in whatever world has that heap. -/
theorem Rel.readsAt {E : Env} {H : AHeap} {w : World} (h : Rel E H w) (P : Program) {i : Nat} {cs : List AV} (hi : H.get i = some (.cells cs)) {p : Place} (hp : E.φ i = some p) (o n : Nat) (hl : o + n ≤ cs.length) :
    ∃ vs, (∀ w' : World, w'.heap = w.heap → (loadCells ⟨p.b, p.s + o, none⟩ n).run P w' = .ok vs.toArray w') ∧ VRels E ((cs.drop o).take n) vs := by
  obtain ⟨c, e, fz, us, h1, h2, h3, h4, _⟩ := h.cellsOf hi hp
  have hul := h3.length
  refine ⟨(us.drop o).take n, fun w' hw => ?_, (h3.drop o).take n⟩
  have hlen : ((us.drop o).take n).length = n := by simp; omega
  have h1' : w'.heap[p.b]? = some (.cells c e fz) := by rw [hw]; exact h1
  have := run_loadCells_list (P := P) w' ⟨p.b, p.s + o, none⟩ ((us.drop o).take n) (fun j v hj => by
    rw [Addr.add_mk, cell?_of h1']
    have hjn : j < n := by
      rcases Nat.lt_or_ge j n with q | q
      · exact q
      · rw [List.getElem?_take_eq_none q] at hj; simp at hj
    rw [List.getElem?_take_of_lt hjn, List.getElem?_drop] at hj
    have := prefix_get? h4 hj
    rw [List.getElem?_drop] at this
    rw [show p.s + o + j = p.s + (o + j) by omega]
    simpa using this)
  rw [hlen] at this
  exact this

theorem afirst_sound {P : Program} {E : Env} {H : AHeap} {w : World} (hR : Rel E H w) {z n : Nat} {x : AV} {cs : List AV} {u : Value} (h : afirst H.get z n x = some cs) (hx : VRel E x u) :
    ∃ vs, VRels E cs vs ∧ (∀ w', w'.heap = w.heap → (Builtin.firstCells z n u).run P w' = .ok vs.toArray w') ∧ (∀ a l c, u = .slice (some a) l c → ∀ w', w'.heap = w.heap → (loadCells a (n * z)).run P w' = .ok vs.toArray w') := by
  unfold afirst at h
  split at h
  · split at h
    · rename_i hn
      simp only [Option.some.injEq] at h; subst h; subst hn
      cases hx
      exact ⟨[], .nil, fun w' _ => by simp [Builtin.firstCells], fun a l c e => by simp at e⟩
    · simp at h
  · rename_i i o z' len cap opn
    split at h
    · rename_i cs0 hi
      split at h
      · rename_i hl
        simp only [Option.some.injEq] at h; subst h
        cases hx with | sl hp hlen hcap hopn hroom =>
        rename_i c' p
        obtain ⟨vs, g1, g2⟩ := hR.readsAt P hi hp o (n * z) hl
        refine ⟨vs, g2, fun w' hw => ?_, fun a l c e w' hw => ?_⟩
        · simp only [Builtin.firstCells]; exact g1 w' hw
        · simp only [Value.slice.injEq, Option.some.injEq] at e; rw [← e.1]; exact g1 w' hw
      · simp at h
    · simp at h
  · rename_i cs0 len
    split at h
    · rename_i hl
      simp only [Option.some.injEq] at h; subst h
      cases hx with
      | vsl0 =>
        rename_i a0
        have h0 : n * z = 0 := by simpa using hl
        have g1' : ∀ w' : World, (loadCells a0 (n * z)).run P w' = .ok #[] w' := fun w' => by rw [h0]; rfl
        refine ⟨[], by simpa using VRels.nil, fun w' hw => ?_, fun a l c e w' hw => ?_⟩
        · simp only [Builtin.firstCells]; exact g1' w'
        · simp only [Value.slice.injEq, Option.some.injEq] at e; rw [← e.1]; exact g1' w'
      | vsl hK hv hlen =>
      rename_i B o c' us
      have g1' : ∀ w', w'.heap = w.heap → (loadCells ⟨B, o, none⟩ (n * z)).run P w' = .ok (us.take (n * z)).toArray w' := fun w' hw =>
        InK.reads (hR.heapEq hw) P (InK.mono (E := E) (E' := { E with os := w'.os, out := w'.output }) ⟨fun _ _ h => h, fun _ _ h => h⟩ hK) (n * z) (by rw [hv.length]; exact hl)
      refine ⟨us.take (n * z), hv.take _, fun w' hw => ?_, fun a l c e w' hw => ?_⟩
      · simp only [Builtin.firstCells]; exact g1' w' hw
      · simp only [Value.slice.injEq, Option.some.injEq] at e; rw [← e.1]; exact g1' w' hw
    · simp at h
  · rename_i s
    split at h
    · rename_i hn
      simp only [Option.some.injEq] at h; subst h; subst hn
      cases hx
      refine ⟨s.map fun b => Value.int .u8 b.toNat, VRels.bytes s, fun w' _ => ?_, fun a l c e => by simp at e⟩
      have : (ByteArray.mk s.toArray).extract 0 s.length = ByteArray.mk s.toArray := by
        rw [ByteArray.extract_mk]; simp
      simp [Builtin.firstCells, this]
    · simp at h
  · simp at h

def alenOf : AV → Option Nat
  | .nilsl => some 0
  | .sl _ _ _ n _ _ => some n
  | .vsl _ n => some n
  | .csl _ n => some n
  | .str s => some s.length
  | _ => none

theorem alenOf_sound {P : Program} {E : Env} {x : AV} {n : Nat} {u : Value} (h : alenOf x = some n) (hx : VRel E x u) (w : World) : (Builtin.lenOf u).run P w = .ok n w := by
  unfold alenOf at h
  split at h <;> first
    | (simp at h; done)
    | (simp only [Option.some.injEq] at h; subst h; cases hx; simp [Builtin.lenOf]; try rfl)

def aread (P : Program) (ρ : Operand → Option AV) (get : Nat → Option AObj) (o : Oper) : Option AV :=
  match o.op with
  | .load t x => match ρ x with
    | some a => match aat get a with
      | some cs => acut P t cs
      | none => none
    | none => none
  | .convert s d x => match P.underlying s, P.underlying d with
    | some (.slice e), some .string => match P.underlying e, ρ x with
      | some (.int .u8), some a => match a with
        | .nilsl => some (.str [])
        | .sl i o z len cap opn => match afirst get 1 len (.sl i o z len cap opn) with
          | some cs => (abytes cs).map .str
          | none => none
        | .vsl cs len => match afirst get 1 len (.vsl cs len) with
          | some cs => (abytes cs).map .str
          | none => none
        | _ => none
      | _, _ => none
    | _, _ => none
  | .lookup t x k ok => match ρ x, ρ k with
    | some a, some b => alookup P t get a b ok
    | _, _ => none
  | .call c => match c.callee, c.argTypes.toList, c.args.toList with
    | .builtin .len, [t], [x] => match ρ x with
      | some a => amaplen P t get a
      | none => none
    | _, _, _ => none
  | _ => none

/-- What an operation that only reads gives. -/
def Reads (P : Program) (E : Env) (σ : Operand → Value) (o : Oper) (r : AV) (w : World) : Prop := ∃ v, VRel E r v ∧ (execOp σ o).run P w = .ok (.value v) w

theorem bytesToString_sound {P : Program} {E : Env} {H : AHeap} {w : World} (hR : Rel E H w) {x : AV} {len : Nat} {cs : List AV} {bs : List UInt8} {u : Value} {a : Addr} {c : Nat}
    (h : afirst H.get 1 len x = some cs) (hb : abytes cs = some bs) (hx : VRel E x u) (hu : u = .slice (some a) len c) : (Conv.bytesToString u).run P w = .ok (.string ⟨bs.toArray⟩) w := by
  obtain ⟨vs, g1, g2, g3⟩ := afirst_sound (P := P) hR h hx
  obtain ⟨ns, e1, e2⟩ := abytes_sound hb g1
  have := g3 a len c hu w rfl
  rw [Nat.mul_one, e1] at this
  subst hu
  rw [run_bytesToString w a len c ns this]
  have e0 : ByteArray.empty = ByteArray.mk ([] : List UInt8).toArray := rfl
  rw [e0, foldl_push, List.nil_append, e2]

theorem aread_sound {P : Program} {E : Env} {ρ : Operand → Option AV} {σ : Operand → Value} {o : Oper} {r : AV} {H : AHeap} {w : World} (hR : Rel E H w) (hr : Operands E ρ σ o.op.operands.toList) (h : aread P ρ H.get o = some r) : Reads P E σ o r w := by
  obtain ⟨dst, op, ty, pos, after, guard⟩ := o
  cases op <;> simp only [aread] at h <;> simp only [Op.operands] at hr <;> try (simp at h; done)
  case load t x =>
    split at h <;> try (simp at h; done)
    rename_i a ha
    split at h <;> try (simp at h; done)
    rename_i cs hcs
    obtain ⟨v, h1, h2⟩ := aat_load hR hcs h (hr x (by simp) _ ha)
    exact ⟨v, h1, by simp [execOp, h2]⟩
  case convert s d x =>
    split at h <;> try (simp at h; done)
    rename_i e hs hd
    split at h <;> try (simp at h; done)
    rename_i a he ha
    have hx := hr x (by simp) _ ha
    split at h <;> try (simp at h; done)
    · simp only [Option.some.injEq] at h; subst h
      refine ⟨.string ⟨#[]⟩, .str [], ?_⟩
      simp only [execOp]
      generalize σ x = u at hx
      cases hx
      have := run_convert_bytes_string (P := P) w s d e none 0 0 hs he hd
      simp only [Sem.run_bind, this]
      simp [Conv.bytesToString]; rfl
    · split at h <;> try (simp at h; done)
      rename_i cs hcs
      simp only [Option.map_eq_some_iff] at h
      obtain ⟨bs, hb, rfl⟩ := h
      refine ⟨_, .str bs, ?_⟩
      simp only [execOp]
      generalize σ x = u at hx
      have hx' := hx
      cases hx with | sl hp =>
      have := bytesToString_sound (P := P) hR hcs hb hx' rfl
      simp only [Sem.run_bind, run_convert_bytes_string (P := P) w s d e _ _ _ hs he hd, this, Result.andThen_ok, Sem.run_pure]
    · split at h <;> try (simp at h; done)
      rename_i cs hcs
      simp only [Option.map_eq_some_iff] at h
      obtain ⟨bs, hb, rfl⟩ := h
      refine ⟨_, .str bs, ?_⟩
      simp only [execOp]
      generalize σ x = u at hx
      have hx' := hx
      cases hx with
      | vsl hK hv hl =>
        have := bytesToString_sound (P := P) hR hcs hb hx' rfl
        simp only [Sem.run_bind, run_convert_bytes_string (P := P) w s d e _ _ _ hs he hd, this, Result.andThen_ok, Sem.run_pure]
      | vsl0 =>
        have := bytesToString_sound (P := P) hR hcs hb hx' rfl
        simp only [Sem.run_bind, run_convert_bytes_string (P := P) w s d e _ _ _ hs he hd, this, Result.andThen_ok, Sem.run_pure]
  case lookup t x k ok =>
    split at h <;> try (simp at h; done)
    rename_i a b ha hb
    obtain ⟨y, h1, h2⟩ := alookup_sound hR h (hr x (by simp) _ ha) (hr k (by simp) _ hb)
    exact ⟨y, h1, by simp [execOp, h2]⟩
  case call c =>
    obtain ⟨callee, args, argTypes⟩ := c
    simp only at h
    split at h <;> try (simp at h; done)
    rename_i t x hat hxy
    split at h <;> try (simp at h; done)
    rename_i a ha
    have hargs : args = #[x] := by cases args; simp_all
    have hat' : argTypes = #[t] := by cases argTypes; simp_all
    subst hargs; subst hat'
    obtain ⟨y, h1, h2⟩ := amaplen_sound hR h (hr x (by simp [Call.operands]) _ ha) (ty := ty)
    refine ⟨y, h1, ?_⟩
    simp only [execOp, resolve, invoke, builtin, Sem.run_bind, Sem.run_pure, Result.andThen_ok, List.map_toArray, List.map_cons, List.map_nil, h2]

end Go.Abs

/-
  A simplified meaning for Go code, ninth part: what lays a new block.
-/

namespace Go.Abs
open Go

/-- One object more in the model's heap. -/
theorem Rel.push {E : Env} {H : AHeap} {w w' : World} (h : Rel E H w) {cs : List AV} {vs : List Value} {c : Array Value} {e : TypeId} {fz : Nat × Nat}
    (hw : w'.heap = w.heap.push (.cells c e fz)) (ho : w'.os = w.os) (hu : w'.output = w.output)
    (hv : VRels E cs vs) (hp : vs <+: c.toList) (hfz : Unfr fz c.size) :
    Rel (E.put H.next ⟨w.heap.size, 0, c.size, e⟩) (H.push (.cells cs)) w' := by
  have := h.alloc cs vs c e fz hv hp hfz
  have e1 : (w.alloc (.cells c e fz)).heap = w'.heap := by rw [hw]; rfl
  refine ⟨ho.trans h.os, hu.trans h.out, fun B o hb => ?_, fun B o hb => ?_, this.KF, this.dom, fun i x hi => ?_, this.inj⟩
  · rw [← e1]; exact this.K B o hb
  · rw [← e1]; exact this.F B o hb
  · obtain ⟨p, ob, g1, g2, g3, g4, g5⟩ := this.live i x hi
    exact ⟨p, ob, g1, g2, g3, by rw [← e1]; exact g4, g5⟩

/-- Of how many cells an object is, of which type. -/
def obN : Obj → Nat
  | .cells c _ _ => c.size
  | _ => 0
def obE : Obj → TypeId
  | .cells _ e _ => e
  | _ => 0

/-- One object more in the model's heap, whatever it is. -/
theorem Rel.pushX {E : Env} {H : AHeap} {w w' : World} (h : Rel E H w) {x : AObj} {ob : Obj} (hw : w'.heap = w.heap.push ob) (ho : w'.os = w.os) (hu : w'.output = w.output) (hr : ORel E ⟨w.heap.size, 0, obN ob, obE ob⟩ x ob) :
    Rel (E.put H.next ⟨w.heap.size, 0, obN ob, obE ob⟩) (H.push x) w' := by
  have hx := Env.put_ext (E := E) (i := H.next) (p := ⟨w.heap.size, 0, obN ob, obE ob⟩) h.fresh
  have hsz : ∀ B o, w.heap[B]? = some o → B < w.heap.size := fun B o hb => by
    rcases Nat.lt_or_ge B w.heap.size with q | q
    · exact q
    · rw [Array.getElem?_eq_none q] at hb; simp at hb
  have hold : ∀ B o, w.heap[B]? = some o → w'.heap[B]? = some o := fun B o hb => by
    have hlt := hsz B o hb
    rw [hw, Array.getElem?_push, if_neg (by omega)]; exact hb
  have hnew : w'.heap[w.heap.size]? = some ob := by rw [hw]; simp
  refine ⟨ho.trans h.os, hu.trans h.out, fun B o hb => hold B o (h.K B o hb), fun B o hb => hold B o (h.F B o hb), h.KF, ?_, ?_, ?_⟩
  · intro i p hp
    simp only [Env.put] at hp
    simp only [AHeap.push]
    split at hp
    · omega
    · have := h.dom i p hp; omega
  · intro i y hi
    simp only [AHeap.push] at hi
    split at hi
    · rename_i hin
      subst hin
      simp only [Option.some.injEq] at hi; subst hi
      refine ⟨⟨w.heap.size, 0, obN ob, obE ob⟩, ob, by simp [Env.put], ?_, ?_, hnew, hr.mono hx.knows⟩
      · cases hk : E.K w.heap.size with
        | none => exact hk
        | some o => exact absurd (hsz _ _ (h.K _ _ hk)) (Nat.lt_irrefl _)
      · cases hk : E.F w.heap.size with
        | none => exact hk
        | some o => exact absurd (hsz _ _ (h.F _ _ hk)) (Nat.lt_irrefl _)
    · obtain ⟨p, o, h1, h2, h3, h4, h5⟩ := h.live i y hi
      exact ⟨p, o, hx.φ _ _ h1, h2, h3, hold _ _ h4, h5.mono hx.knows⟩
  · intro i j y z p q hi hj hpi hqj hpq
    simp only [AHeap.push] at hi hj
    simp only [Env.put] at hpi hqj
    by_cases h1 : i = H.next <;> by_cases h2 : j = H.next
    · omega
    · rw [if_pos h1] at hpi; rw [if_neg h2] at hqj hj
      simp only [Option.some.injEq] at hpi; subst hpi
      obtain ⟨q', o, g1, _, _, g4, _⟩ := h.live j z hj
      rw [g1] at hqj; cases hqj
      have := hsz _ _ g4
      simp only at hpq; omega
    · rw [if_neg h1] at hpi hi; rw [if_pos h2] at hqj
      simp only [Option.some.injEq] at hqj; subst hqj
      obtain ⟨q', o, g1, _, _, g4, _⟩ := h.live i y hi
      rw [g1] at hpi; cases hpi
      have := hsz _ _ g4
      simp only at hpq; omega
    · rw [if_neg h1] at hpi hi; rw [if_neg h2] at hqj hj
      exact h.inj i j y z p q hi hj hpi hqj hpq

/-- A new object is laid, and f of its number is handed back. -/
def Lays (P : Program) (E : Env) (σ : Operand → Value) (o : Oper) (x : AObj) (f : Nat → AV) : Prop :=
  ∀ w : World, ∃ ob v w', (execOp σ o).run P w = .ok (.value v) w' ∧ w'.heap = w.heap.push ob ∧ w'.os = w.os ∧ w'.output = w.output ∧
    ORel E ⟨w.heap.size, 0, obN ob, obE ob⟩ x ob ∧ ∀ (E' : Env) (i : Nat), E'.φ i = some ⟨w.heap.size, 0, obN ob, obE ob⟩ → VRel E' (f i) v

/-- A new block with these cells is laid, and f of its number is handed back. -/
def LaysC (P : Program) (E : Env) (σ : Operand → Value) (o : Oper) (cs : List AV) (f : Nat → AV) : Prop :=
  ∃ vs, VRels E cs vs ∧ ∀ w : World, ∃ c e fz v w', (execOp σ o).run P w = .ok (.value v) w' ∧ w'.heap = w.heap.push (.cells c e fz) ∧ w'.os = w.os ∧ w'.output = w.output ∧
    vs <+: c.toList ∧ Unfr fz c.size ∧ ∀ (E' : Env) (i : Nat), E'.φ i = some ⟨w.heap.size, 0, c.size, e⟩ → VRel E' (f i) v

/-- c copies of zs, one behind the other. -/
def arep (zs : List AV) : Nat → List AV
  | 0 => []
  | c + 1 => zs ++ arep zs c
def vrep (zs : List Value) : Nat → List Value
  | 0 => []
  | c + 1 => zs ++ vrep zs c

theorem arep_rel {E : Env} {zs : List AV} {us : List Value} (h : VRels E zs us) : ∀ c, VRels E (arep zs c) (vrep us c)
  | 0 => .nil
  | c + 1 => h.append (arep_rel h c)

theorem vrep_length (zs : List Value) : ∀ c, (vrep zs c).length = c * zs.length
  | 0 => by simp [vrep]
  | c + 1 => by simp [vrep, vrep_length zs c, Nat.add_mul, Nat.add_comm]

theorem vrep_get? (zs : List Value) : ∀ (c j : Nat), j < c * zs.length → (vrep zs c)[j]? = zs[j % zs.length]?
  | 0, j, h => by simp at h
  | c + 1, j, h => by
    simp only [vrep, List.getElem?_append]
    split
    · rename_i hj; rw [Nat.mod_eq_of_lt hj]
    · rename_i hj
      rw [vrep_get? zs c _ (by rw [Nat.add_mul] at h; omega)]
      congr 1
      rw [← Nat.mod_eq_sub_mod (by omega)]

theorem range_map_mod (z : Array Value) (c : Nat) : ((Array.range (c * z.size)).map fun i => z[i % z.size]!).toList = vrep z.toList c := by
  apply List.ext_getElem?
  intro j
  rw [Array.toList_map, Array.toList_range, List.getElem?_map]
  by_cases hj : j < c * z.size
  · rw [List.getElem?_range hj, vrep_get? _ _ _ (by simpa using hj)]
    have hz : 0 < z.size := by
      rcases Nat.eq_zero_or_pos z.size with q | q
      · rw [q] at hj; simp at hj
      · exact q
    have hm : j % z.size < z.size := Nat.mod_lt _ hz
    simp [hm]
  · rw [List.getElem?_eq_none (by simp; omega), List.getElem?_eq_none (by rw [vrep_length]; simpa using hj)]
    rfl

/-- strings.Builder, or a struct of it alone: told by its shape. -/
def builderTy (P : Program) (t : TypeId) : Bool := match P.underlying t with
  | some (.struct fs) => match fs.toList with
    | [a, b] => match P.underlying a.type, P.underlying b.type with
      | some (.pointer u), some (.slice _) => u == t
      | _, _ => false
    | [a] => match P.underlying a.type with
      | some (.struct gs) => match gs.toList with
        | [c, d] => match P.underlying c.type, P.underlying d.type with
          | some (.pointer u), some (.slice _) => u == a.type
          | _, _ => false
        | _ => false
      | _ => false
    | _ => false
  | _ => false

def aallocC (P : Program) (ρ : Operand → Option AV) (o : Oper) : Option (List AV × (Nat → AV)) :=
  match o.op with
  | .alloc t => match azero P t with
    | some z => some (z.cells, fun i => .ptr i 0)
    | _ => none
  | .box _ x => match ρ x with
    | some a => some (a.cells, fun i => .ptr i 0)
    | none => none
  | .buildSlice t len ps => match P.underlying t with
    | some (.slice e) => match asize P e, azero P e, apairs ρ ps.toList with
      | some n, some z, some qs => if z.cells.length = n ∧ len * n ≤ 16777216 then
          match afill (fun i => some (i * n, n)) (arep z.cells len) qs with
          | some cs => some (cs, fun i => .sl i 0 n len len false)
          | none => none
        else none
      | _, _, _ => none
    | _ => none
  | .makeSlice t l c => match P.underlying t with
    | some (.slice e) => match P.info? e, azero P e, ρ l, ρ c with
      | some info, some z, some (.int _ l), some (.int _ c) =>
        if z.cells.length = info.size ∧ 0 ≤ l ∧ l ≤ c ∧ c ≤ 4611686018427387904 ∧ info.bytes * c ≤ 281474976710656 then
          some (arep z.cells c.toNat, fun i => .sl i 0 info.size l.toNat c.toNat false)
        else none
      | _, _, _, _ => none
    | _ => none
  | .convert s d x => match P.underlying s, P.underlying d, ρ x with
    | some .string, some (.slice e), some (.str bs) => match P.underlying e with
      | some (.int .u8) => some (bs.map fun b => .int .u8 b.toNat, fun i => .sl i 0 1 bs.length bs.length true)
      | _ => none
    | _, _, _ => none
  | _ => none

theorem lays_row {P : Program} {E : Env} {σ : Operand → Value} {o : Oper} {cs : List AV} {vs : List Value} {f : Nat → AV} {g : Nat → Value} {t : TypeId} (hv : VRels E cs vs)
    (hrun : ∀ w, (execOp σ o).run P w = .ok (.value (g w.heap.size)) (w.alloc (.cells vs.toArray t)))
    (hf : ∀ (E' : Env) (i B : Nat), E'.φ i = some ⟨B, 0, vs.length, t⟩ → VRel E' (f i) (g B)) : LaysC P E σ o cs f :=
  ⟨vs, hv, fun w => ⟨vs.toArray, t, (0, 0), g w.heap.size, w.alloc (.cells vs.toArray t), hrun w, rfl, rfl, rfl, by simp, .inl rfl, fun E' i h => hf E' i _ (by simpa using h)⟩⟩

theorem aallocC_sound {P : Program} {E : Env} {ρ : Operand → Option AV} {σ : Operand → Value} {o : Oper} {cs : List AV} {f : Nat → AV} (hr : Operands E ρ σ o.op.operands.toList) (h : aallocC P ρ o = some (cs, f)) : LaysC P E σ o cs f := by
  obtain ⟨dst, op, ty, pos, after, guard⟩ := o
  cases op <;> simp only [aallocC] at h <;> simp only [Op.operands] at hr <;> try (simp at h; done)
  case alloc t =>
    split at h <;> try (simp at h; done)
    rename_i z hz
    simp only [Option.some.injEq, Prod.mk.injEq] at h; obtain ⟨rfl, rfl⟩ := h
    obtain ⟨zv, h1, h2⟩ := run_azero E hz
    refine lays_row (g := fun B => .pointer (some ⟨B, 0, none⟩)) (t := t) h1.cells (fun w => ?_) (fun E' i B hi => .ptr hi)
    simp [execOp, Instr.alloc, h2, newVar, newRow]
  case box t x =>
    split at h <;> try (simp at h; done)
    rename_i a ha
    simp only [Option.some.injEq, Prod.mk.injEq] at h; obtain ⟨rfl, rfl⟩ := h
    have hx := hr x (by simp) _ ha
    refine lays_row (g := fun B => .pointer (some ⟨B, 0, none⟩)) (t := t) hx.cells (fun w => ?_) (fun E' i B hi => .ptr hi)
    simp [execOp, Instr.box, newVar, newRow]
  case buildSlice t len ps =>
    split at h <;> try (simp at h; done)
    rename_i e ht
    split at h <;> try (simp at h; done)
    rename_i n z qs hn hz hq
    split at h <;> try (simp at h; done)
    rename_i hb
    split at h <;> try (simp at h; done)
    rename_i cs' hcs
    simp only [Option.some.injEq, Prod.mk.injEq] at h; obtain ⟨rfl, rfl⟩ := h
    obtain ⟨zv, h1, h2⟩ := run_azero E hz
    have hzl := h1.cells.length
    rw [hb.1] at hzl
    simp only [Array.length_toList] at hzl
    have hp := apairs_sound (E := E) (σ := σ) (fun x hx => hr x hx) hq
    have hrep : VRels E (arep z.cells len) ((Array.range (len * zv.cells.size)).map fun i => zv.cells[i % zv.cells.size]!).toList := by
      rw [range_map_mod]; exact arep_rel h1.cells len
    obtain ⟨d, h3, h4⟩ := afill_sound (fun i => some (i * n, n)) _ _ _ _ _ hp hrep hcs
    have hd : d.size = len * n := by
      have e1 : ∀ (qs : List (Nat × Value)) (c d : Array Value), Instr.fill (fun i => some (i * n, n)) c qs = some d → d.size = c.size := by
        intro qs
        induction qs with
        | nil => intro c d h; simp [Instr.fill] at h; subst h; rfl
        | cons q qs ih =>
          intro c d h
          obtain ⟨i, v⟩ := q
          simp only [Instr.fill] at h
          split at h
          · simp at h
          · rw [ih _ _ h]
            have : ∀ (l : List (Value × Nat)) (c : Array Value), (l.foldl (fun cs (x : Value × Nat) => cs.setIfInBounds (i * n + x.2) x.1) c).size = c.size := by
              intro l
              induction l with
              | nil => intro c; rfl
              | cons x l ih => intro c; simp only [List.foldl_cons, ih, Array.size_setIfInBounds]
            rw [← Array.foldl_toList, this]
      rw [e1 _ _ _ h3]
      simp [hzl]
    refine lays_row (vs := d.toList) (g := fun B => .slice (some ⟨B, 0, none⟩) len len) (t := e) h4 (fun w => ?_) (fun E' i B hi => ?_)
    · have hlist : (ps.map fun (i, x) => (i, σ x)).toList = ps.toList.map fun (i, x) => (i, σ x) := by simp
      have h3' : Instr.fill (fun i => some (i * n, n)) ((Array.range (len * n)).map fun i => zv.cells[i % zv.cells.size]!) (ps.map fun (i, x) => (i, σ x)).toList = some d := by
        rw [hlist, ← h3, hzl]
      have hlim : ¬ (len * n > 2 ^ 24) := by omega
      by_cases h0 : len * n = 0
      · have h3'' : Instr.fill (fun i => some (i * n, n)) ((Array.range (len * n)).map fun i => (#[] : Array Value)[i % (#[] : Array Value).size]!) (ps.map fun (i, x) => (i, σ x)).toList = some d := by
          rw [← h3', h0, Array.range_zero', Array.map_empty, Array.map_empty]
        simp only [execOp, Instr.buildSlice, Sem.run_bind, run_underlying ht, Result.andThen_ok, run_asize hn, Sem.run_ite, if_neg hlim, if_pos h0, Sem.run_pure]
        simp only [h3'']
        simp [newRow]
      · simp only [execOp, Instr.buildSlice, Sem.run_bind, run_underlying ht, Result.andThen_ok, run_asize hn, Sem.run_ite, if_neg hlim, if_neg h0, Sem.run_pure, h2]
        simp only [h3']
        simp [newRow]
    · have := VRel.sl (E := E') (i := i) (o := 0) (z := n) (len := len) (cap := len) (c' := len) (opn := false) hi (Nat.le_refl _) (Nat.le_refl _) (fun _ => rfl) (by simp [hd])
      simpa using this
  case makeSlice t l c =>
    split at h <;> try (simp at h; done)
    rename_i e ht
    split at h <;> try (simp at h; done)
    rename_i info z kl l' kc c' hi hz hl hc
    split at h <;> try (simp at h; done)
    rename_i hb
    obtain ⟨hb1, hb2, hb3, hb4, hb5⟩ := hb
    simp only [Option.some.injEq, Prod.mk.injEq] at h; obtain ⟨rfl, rfl⟩ := h
    have hlv := hr l (by simp) _ hl
    have hcv := hr c (by simp) _ hc
    unfold azero at hz
    rw [hi] at hz
    simp only at hz
    split at hz <;> try (simp at hz; done)
    rename_i zv hzv
    have h1 := ofConst_rel E hz
    have hzl := h1.cells.length
    rw [hb1] at hzl
    simp only [Array.length_toList] at hzl
    have hlen : (vrep zv.cells.toList c'.toNat).length = c'.toNat * info.size := by rw [vrep_length]; simp [hzl]
    refine lays_row (vs := vrep zv.cells.toList c'.toNat) (g := fun B => .slice (some ⟨B, 0, none⟩) l'.toNat c'.toNat) (t := e) (arep_rel h1.cells _) (fun w => ?_) (fun E' i B hi => ?_)
    · have e1 : σ l = .int kl l' := by generalize σ l = u at hlv; cases hlv; rfl
      have e2 : σ c = .int kc c' := by generalize σ c = u at hcv; cases hcv; rfl
      have e3 : (vrep zv.cells.toList c'.toNat).toArray = ((Array.range (c'.toNat * info.size)).map fun i => zv.cells[i % zv.cells.size]!) := by
        rw [← hzl, ← range_map_mod]
      have hmk := run_make (P := P) w t e info zv ht hi hzv kl kc l' c' hb2 hb3 hb5 (by omega)
      rw [e3]
      simp only [execOp, e1, e2, Sem.run_bind, hmk, Result.andThen_ok, Sem.run_pure]
      rfl
    · have := VRel.sl (E := E') (i := i) (o := 0) (z := info.size) (len := l'.toNat) (cap := c'.toNat) (c' := c'.toNat) (opn := false) hi (by omega) (Nat.le_refl _) (fun _ => rfl) (by simp [hlen])
      simpa using this
  case convert s d x =>
    split at h <;> try (simp at h; done)
    rename_i e bs hs hd hx
    split at h <;> try (simp at h; done)
    rename_i he
    simp only [Option.some.injEq, Prod.mk.injEq] at h; obtain ⟨rfl, rfl⟩ := h
    have hxv := hr x (by simp) _ hx
    refine ⟨bs.map fun b => Value.int .u8 b.toNat, VRels.bytes bs, fun w => ?_⟩
    have e1 : σ x = .string ⟨bs.toArray⟩ := by generalize σ x = u at hxv; cases hxv; rfl
    have hsz : (ByteArray.mk bs.toArray).size = bs.length := by simp [ByteArray.size]
    let cap := (Question.appendCap bs.length 0 e).cut (w.tape w.drawn (.appendCap bs.length 0 e))
    have hcap : bs.length ≤ cap := by
      show bs.length ≤ bs.length + _
      omega
    let row : Array Value := (bs.map fun b => Value.int .u8 b.toNat).toArray ++ Array.replicate (cap - bs.length) (.int .u8 0)
    have hrow : row.size = cap := by simp [row]; omega
    refine ⟨row, e, (cap, cap + 1), .slice (some ⟨w.heap.size, 0, none⟩) bs.length cap, (w.drew.alloc (.cells row e)).freeze { block := w.heap.size, off := row.size } 1, ?_, ?_, rfl, rfl, ?_, ?_, ?_⟩
    · have hconv : (convert s d (.string ⟨bs.toArray⟩)).run P w = (Conv.stringToBytes e ⟨bs.toArray⟩).run P w := by
        simp only [convert, Sem.run_bind, run_underlying hs, run_underlying hd, Result.andThen_ok, run_underlying he]
      simp only [execOp, e1, Sem.run_bind, hconv]
      have hmap : ((ByteArray.mk bs.toArray).data.map fun b => Value.int .u8 b.toNat) = (bs.map fun b => Value.int .u8 b.toNat).toArray := by simp
      simp only [Conv.stringToBytes, Sem.run_bind, run_choose, hsz, Question.forced, Bool.false_eq_true, if_false, Result.andThen_ok, newRow, run_newObj, Sem.run_pure, markStringish, run_shape, hmap]
      have hshape : ∀ (C : Array Value), World.shape? (World.mk (w.heap.push (.cells C e)) w.tape (w.drawn + 1) w.os w.output) w.heap.size = some (e, C.size) := fun C => by
        simp [World.shape?]
      rw [hshape]
      rfl
    · simp only [World.freeze]
      rw [if_neg (by omega)]
      simp only [World.alloc, World.drew]
      apply Array.ext_getElem?
      intro k
      rw [Array.getElem?_modify]
      by_cases hk : w.heap.size = k
      · subst hk
        simp [hrow]
      · rw [if_neg hk, Array.getElem?_push, Array.getElem?_push, if_neg (fun e => hk e.symm), if_neg (fun e => hk e.symm)]
    · simp [row]
    · exact .inr (by rw [hrow]; exact Nat.le_refl _)
    · intro E' i hi
      have := VRel.sl (E := E') (i := i) (o := 0) (z := 1) (len := bs.length) (cap := bs.length) (c' := cap) (opn := true) hi (Nat.le_refl _) hcap (fun h => by simp at h) (by simp [hrow])
      simpa using this

theorem LaysC.lays {P : Program} {E : Env} {σ : Operand → Value} {o : Oper} {cs : List AV} {f : Nat → AV} (h : LaysC P E σ o cs f) : Lays P E σ o (.cells cs) f := by
  obtain ⟨vs, h1, h2⟩ := h
  intro w
  obtain ⟨c, e, fz, v, w', g1, g2, g3, g4, g5, g6, g7⟩ := h2 w
  exact ⟨.cells c e fz, v, w', g1, g2, g3, g4, ⟨c, e, fz, vs, rfl, rfl, h1, by simpa using g5, g6, rfl⟩, g7⟩

def aalloc (P : Program) (ρ : Operand → Option AV) (o : Oper) : Option (AObj × (Nat → AV)) :=
  match o.op with
  | .alloc t => match azero P t with
    | some z => some (if builderTy P t then .row t z.cells else .cells z.cells, fun i => .ptr i 0)
    | none => none
  | .box t x => match ρ x with
    | some a => some (if builderTy P t then .row t a.cells else .cells a.cells, fun i => .ptr i 0)
    | none => none
  | .makeMap t r => match P.underlying t with
    | some (.map _ _) => match r with
      | none => some (.map [], fun i => .map i)
      | some x => match ρ x with
        | some (.int _ _) => some (.map [], fun i => .map i)
        | _ => none
    | _ => none
  | _ => match aallocC P ρ o with
    | some (cs, f) => some (.cells cs, f)
    | none => none

theorem aalloc_sound {P : Program} {E : Env} {ρ : Operand → Option AV} {σ : Operand → Value} {o : Oper} {x : AObj} {f : Nat → AV} (hr : Operands E ρ σ o.op.operands.toList) (h : aalloc P ρ o = some (x, f)) : Lays P E σ o x f := by
  unfold aalloc at h
  split at h
  · rename_i t ho
    split at h <;> try (simp at h; done)
    rename_i z hz
    simp only [Option.some.injEq, Prod.mk.injEq] at h; obtain ⟨rfl, rfl⟩ := h
    obtain ⟨dst, op, ty, pos, after, guard⟩ := o
    simp only at ho; subst ho
    split
    · obtain ⟨zv, h1, h2⟩ := run_azero E hz
      intro w
      refine ⟨.cells zv.cells t (0, 0), .pointer (some ⟨w.heap.size, 0, none⟩), w.alloc (.cells zv.cells t), ?_, rfl, rfl, rfl, ⟨⟨_, _, _, _, rfl, rfl, h1.cells, by simp, .inl rfl, rfl⟩, rfl, rfl⟩, fun E' i hi => .ptr hi⟩
      simp [execOp, Instr.alloc, h2, newVar, newRow]
    · refine LaysC.lays (aallocC_sound hr ?_)
      simp only [aallocC, hz]
  · rename_i t x ho
    split at h <;> try (simp at h; done)
    rename_i a ha
    simp only [Option.some.injEq, Prod.mk.injEq] at h; obtain ⟨rfl, rfl⟩ := h
    obtain ⟨dst, op, ty, pos, after, guard⟩ := o
    simp only at ho; subst ho
    split
    · have hx := hr x (by simp [Op.operands]) _ ha
      intro w
      refine ⟨.cells (σ x).cells t (0, 0), .pointer (some ⟨w.heap.size, 0, none⟩), w.alloc (.cells (σ x).cells t), ?_, rfl, rfl, rfl, ⟨⟨_, _, _, _, rfl, rfl, hx.cells, by simp, .inl rfl, rfl⟩, rfl, rfl⟩, fun E' i hi => .ptr hi⟩
      simp [execOp, Instr.box, newVar, newRow]
    · refine LaysC.lays (aallocC_sound hr ?_)
      simp only [aallocC, ha]
  · rename_i t r ho
    split at h <;> try (simp at h; done)
    rename_i kt et ht
    obtain ⟨dst, op, ty, pos, after, guard⟩ := o
    simp only at ho; subst ho
    have fin : ∀ w : World, (Instr.makeMap t (r.map σ)).run P w = .ok (.map (some w.heap.size)) (w.alloc (.map #[] 0)) → ∃ ob v w', (execOp σ { dst, op := .makeMap t r, type := ty, pos, after, guard }).run P w = .ok (.value v) w' ∧ w'.heap = w.heap.push ob ∧ w'.os = w.os ∧ w'.output = w.output ∧
        ORel E ⟨w.heap.size, 0, obN ob, obE ob⟩ (.map []) ob ∧ ∀ (E' : Env) (i : Nat), E'.φ i = some ⟨w.heap.size, 0, obN ob, obE ob⟩ → VRel E' (.map i) v := fun w hw =>
      ⟨.map #[] 0, .map (some w.heap.size), w.alloc (.map #[] 0), by simp only [execOp, Sem.run_bind, hw, Result.andThen_ok, Sem.run_pure], rfl, rfl, rfl, ⟨#[], 0, rfl, .nil, .nil⟩, fun E' i hi => .map (p := ⟨w.heap.size, 0, 0, 0⟩) hi⟩
    split at h
    · simp only [Option.some.injEq, Prod.mk.injEq] at h; obtain ⟨rfl, rfl⟩ := h
      intro w
      refine fin w ?_
      simp [Instr.makeMap]
    · rename_i x
      split at h <;> try (simp at h; done)
      rename_i k n hx
      simp only [Option.some.injEq, Prod.mk.injEq] at h; obtain ⟨rfl, rfl⟩ := h
      have hxv := hr x (by simp [Op.operands]) _ hx
      intro w
      refine fin w ?_
      have e : σ x = .int k n := by generalize σ x = u at hxv; cases hxv; rfl
      have h1 : (asInt (.int k n)).run P w = .ok n w := rfl
      simp only [Instr.makeMap, Option.map_some, e, Sem.run_bind, run_underlying ht, Result.andThen_ok, h1, run_newObj, Sem.run_pure]
      rfl
  · split at h <;> try (simp at h; done)
    rename_i cs g hc
    simp only [Option.some.injEq, Prod.mk.injEq] at h; obtain ⟨rfl, rfl⟩ := h
    exact LaysC.lays (aallocC_sound hr hc)

end Go.Abs

/-
  A simplified meaning for Go code, tenth part: what writes: a store, append, copy, clear.
-/

namespace Go.Abs
open Go

inductive AEff where
  | same
  | put (i : Nat) (x : AObj)
  | new (x : AObj)
  | move (i : Nat) (x : AObj)
  deriving Inhabited

def AHeap.eff (H : AHeap) : AEff → AHeap
  | .same => H
  | .put i x => H.set i x
  | .new x => H.push x
  | .move i x => (H.kill i).push x

@[simp] theorem AHeap.get_push (H : AHeap) (x : AObj) (j : Nat) : (H.push x).get j = if j = H.next then some x else H.get j := rfl
@[simp] theorem AHeap.get_set (H : AHeap) (i : Nat) (x : AObj) (j : Nat) : (H.set i x).get j = if j = i then some x else H.get j := rfl
@[simp] theorem AHeap.get_kill (H : AHeap) (i j : Nat) : (H.kill i).get j = if j = i then none else H.get j := rfl
@[simp] theorem AHeap.next_push (H : AHeap) (x : AObj) : (H.push x).next = H.next + 1 := rfl
@[simp] theorem AHeap.next_set (H : AHeap) (i : Nat) (x : AObj) : (H.set i x).next = H.next := rfl
@[simp] theorem AHeap.next_kill (H : AHeap) (i : Nat) : (H.kill i).next = H.next := rfl

theorem raw_stores (P : Program) (B : Nat) (e : TypeId) (fz : Nat × Nat) (q : Nat) : ∀ (vs : List Value) (k : Nat) (c : Array Value) (w : World), w.heap[B]? = some (.cells c e fz) → q + k + vs.length ≤ c.size →
    (∀ o, q ≤ o → o < c.size → ¬ (fz.1 ≤ o ∧ o < fz.2)) → (∀ v ∈ vs, v.oneCell' = true) →
    ∃ w' c', (storeCells ⟨B, q, none⟩ vs k).run P w = .ok () w' ∧ w'.heap[B]? = some (.cells c' e fz) ∧ c'.toList = c.toList.take (q + k) ++ (vs ++ c.toList.drop (q + k + vs.length)) ∧
      (∀ C, C ≠ B → w'.heap[C]? = w.heap[C]?) ∧ w'.os = w.os ∧ w'.output = w.output := by
  intro vs
  induction vs with
  | nil => intro k c w hb _ _ _; exact ⟨w, c, by simp [storeCells], hb, by simp, fun _ _ => rfl, rfl, rfl⟩
  | cons v vs ih =>
    intro k c w hb hl hf ho
    simp only [List.length_cons] at hl
    have hrun : (store ⟨B, q + k, none⟩ v).run P w = .ok () (w.setCell ⟨B, q + k, none⟩ v) := by
      rw [run_store P w _ v _ (ho v (by simp)), cell?_of hb, Array.getElem?_eq_getElem (by omega)]
      have hfr : w.frozen? ⟨B, q + k, none⟩ = false := frozen?_of hb (hf (q + k) (by omega) (by omega))
      simp [hfr]
    obtain ⟨w', c', g1, g2, g3, g4, g5, g6⟩ := ih (k + 1) (c.setIfInBounds (q + k) v) (w.setCell ⟨B, q + k, none⟩ v) (heap_setCell _ _ _ _ hb) (by simp; omega) (by simpa using hf) (fun u hu => ho u (by simp [hu]))
    refine ⟨w', c', ?_, g2, ?_, fun C hC => (g4 C hC).trans (heap_setCell_ne _ _ _ _ _ hC), g5, g6⟩
    · simp only [storeCells, Sem.run_bind, Addr.add_mk, hrun, Result.andThen_ok, g1]
    · rw [g3, Array.toList_setIfInBounds]
      apply List.ext_getElem?
      intro j
      simp only [List.getElem?_append, List.length_take, List.length_set, Array.length_toList, List.length_cons]
      have h1 : min (q + (k + 1)) c.size = q + (k + 1) := by omega
      have h2 : min (q + k) c.size = q + k := by omega
      rw [h1, h2]
      by_cases a : j < q + k
      · rw [if_pos (by omega), if_pos a, List.getElem?_take_of_lt (by omega), List.getElem?_take_of_lt a, List.getElem?_set_ne (by omega)]
      · by_cases b : j = q + k
        · subst b
          have q1 : q + k < q + (k + 1) := by omega
          have q2 : ¬ q + k < q + k := by omega
          have q3 : q + k - (q + k) < vs.length + 1 := by omega
          have q4 : q + k < c.toList.length := by rw [Array.length_toList]; omega
          rw [if_pos q1, if_neg q2, if_pos q3, List.getElem?_take_of_lt q1, List.getElem?_set_self q4, Nat.sub_self]
          rfl
        · rw [if_neg (by omega), if_neg a]
          obtain ⟨m, rfl⟩ : ∃ m, j = q + k + 1 + m := ⟨j - (q + k + 1), by omega⟩
          rw [show q + k + 1 + m - (q + (k + 1)) = m by omega, show q + k + 1 + m - (q + k) = m + 1 by omega]
          by_cases d : m < vs.length
          · rw [if_pos d, if_pos (by omega)]; rfl
          · rw [if_neg d, if_neg (by omega), List.getElem?_drop, List.getElem?_drop, List.getElem?_set_ne (by omega)]
            congr 1; omega

theorem all_oneCell {E : Env} : ∀ {as_ : List AV} {vs : List Value}, VRels E as_ vs → as_.all AV.scalar = true → ∀ v ∈ vs, v.oneCell' = true
  | [], _, h, _ => by cases h; simp
  | a :: as_, _, h, hs => by
    cases h with | cons h1 h2 =>
    simp only [List.all_cons, Bool.and_eq_true] at hs
    intro v hv
    simp only [List.mem_cons] at hv
    rcases hv with rfl | hv
    · exact h1.oneCell hs.1
    · exact all_oneCell h2 hs.2 v hv

/-- A live block's place in the model is taken over by a new number, its contents another list. -/
theorem Rel.takeOver {E : Env} {H : AHeap} {w w' : World} (h : Rel E H w) {i : Nat} {cs : List AV} (hi : H.get i = some (.cells cs)) {p : Place} (hp : E.φ i = some p) {o : Nat} {as_ : List AV} {vs : List Value} {c : Array Value} {e : TypeId} {fz : Nat × Nat}
    (he : e = p.e) (hb : w'.heap[p.b]? = some (.cells c e fz)) (hc : c.size = p.n) (hf : Unfr fz p.n) (hv : VRels E as_ vs) (hpre : vs <+: c.toList.drop (p.s + o))
    (hoth : ∀ C, C ≠ p.b → w'.heap[C]? = w.heap[C]?) (hos : w'.os = w.os) (hout : w'.output = w.output) :
    Rel (E.put H.next ⟨p.b, p.s + o, p.n, p.e⟩) ((H.kill i).push (.cells as_)) w' := by
  have hx := Env.put_ext (E := E) (i := H.next) (p := ⟨p.b, p.s + o, p.n, p.e⟩) h.fresh
  obtain ⟨c0, e0, fz0, vs0, k1, k2, k3, k4, k5, hK, hF⟩ := h.cellsOf hi hp
  have hltn : ∀ j x, H.get j = some x → j < H.next := fun j x hj => h.lt hj
  refine ⟨hos.trans h.os, hout.trans h.out, fun B ob hB => ?_, fun B ob hB => ?_, h.KF, ?_, ?_, ?_⟩
  · rw [hoth B (fun q => by subst q; have := hK.symm.trans hB; simp at this)]; exact h.K B ob hB
  · rw [hoth B (fun q => by subst q; have := hF.symm.trans hB; simp at this)]; exact h.F B ob hB
  · intro j q hq
    simp only [Env.put] at hq
    simp only [AHeap.next_push, AHeap.next_kill]
    split at hq
    · omega
    · have := h.dom j q hq; omega
  · intro j x hj0
    have hj : (if j = H.next then some (AObj.cells as_) else if j = i then none else H.get j) = some x := hj0
    clear hj0
    by_cases hjn : j = H.next
    · rw [if_pos hjn] at hj
      subst hjn
      cases hj
      exact ⟨⟨p.b, p.s + o, p.n, p.e⟩, _, by simp [Env.put], hK, hF, hb, c, e, fz, vs, rfl, hc, hv.mono hx.knows, hpre, hf, he⟩
    · rw [if_neg hjn] at hj
      by_cases hji : j = i
      · rw [if_pos hji] at hj; simp at hj
      · rw [if_neg hji] at hj
        obtain ⟨q, ob, g1, g2, g3, g4, g5⟩ := h.live j x hj
        refine ⟨q, ob, hx.φ _ _ g1, g2, g3, ?_, g5.mono hx.knows⟩
        rw [hoth q.b (fun r => hji (h.inj j i x _ q p hj hi g1 hp r))]; exact g4
  · intro a b x y q r ha hb' hq hr hqr
    have ha : (if a = H.next then some (AObj.cells as_) else if a = i then none else H.get a) = some x := ha
    have hb' : (if b = H.next then some (AObj.cells as_) else if b = i then none else H.get b) = some y := hb'
    simp only [Env.put] at hq hr
    by_cases han : a = H.next
    · by_cases hbn : b = H.next
      · omega
      · rw [if_neg hbn] at hb'
        by_cases hbi : b = i
        · rw [if_pos hbi] at hb'; simp at hb'
        · rw [if_neg hbi] at hb'
          rw [if_pos han] at hq; rw [if_neg hbn] at hr
          simp only [Option.some.injEq] at hq; subst hq
          exact absurd (h.inj b i y _ r p hb' hi hr hp hqr.symm) hbi
    · rw [if_neg han] at ha
      by_cases hai : a = i
      · rw [if_pos hai] at ha; simp at ha
      · rw [if_neg hai] at ha
        by_cases hbn : b = H.next
        · rw [if_neg han] at hq; rw [if_pos hbn] at hr
          simp only [Option.some.injEq] at hr; subst hr
          exact absurd (h.inj a i x _ q p ha hi hq hp hqr) hai
        · rw [if_neg hbn] at hb'
          by_cases hbi : b = i
          · rw [if_pos hbi] at hb'; simp at hb'
          · rw [if_neg hbi] at hb'
            rw [if_neg han] at hq; rw [if_neg hbn] at hr
            exact h.inj a b x y q r ha hb' hq hr hqr

/-- What an operation that writes does. -/
def OpRes (P : Program) (E : Env) (w : World) (s : Sem Next) (a : AV) (H' : AHeap) : Prop :=
  ∃ E' v w', Ext E E' ∧ VRel E' a v ∧ Rel E' H' w' ∧ (s.run P w = .ok (.value v) w' ∨ (s.run P w = .ok .skip w' ∧ v = undef))

def isSeq : TypeDesc → Bool
  | .slice _ | .string => true
  | _ => false

theorem run_append_grow' {P : Program} (w : World) {t u ty e : TypeId} {i : TypeInfo} {z : Value} {d : TypeDesc} (ht : P.underlying t = some (.slice e)) (hu : P.underlying u = some d) (hd : isSeq d = true) (hi : P.info? e = some i) (hz : i.zero = some z)
    (base : Option Addr) (sLen sCap : Nat) (x : Value) (n : Nat) (olds news : List Value)
    (hlo : ∀ w' : World, w'.heap = w.heap → (Builtin.firstCells i.size sLen (.slice base sLen sCap)).run P w' = .ok olds.toArray w')
    (hln : ∀ w' : World, w'.heap = w.heap → (Builtin.firstCells i.size n x).run P w' = .ok news.toArray w') (hlen : (Builtin.lenOf x).run P w = .ok n w)
    (hg : sCap < sLen + n) (h63 : ((sLen + n : Nat) : Int) ≤ 9223372036854775807) (hfit : Builtin.nextslicecap (sLen + n) sCap * i.bytes ≤ 281474976710656) :
    (Builtin.append_ #[t, u] ty #[.slice base sLen sCap, x]).run P w =
      .ok (.slice (some ⟨w.heap.size, 0, none⟩) (sLen + n) (grownCap w (sLen + n) sCap e))
        (w.drew.alloc (.cells (olds.toArray ++ news.toArray ++ Builtin.zeroCells z.cells (grownCap w (sLen + n) sCap e - (sLen + n))) e)) := by
  have hn : ¬ (sLen + n ≤ sCap) := by omega
  have h63' : ¬ (9223372036854775807 < ((sLen : Int) + (n : Int))) := by omega
  have h48' : ¬ (281474976710656 < Builtin.nextslicecap (sLen + n) sCap * i.bytes) := by omega
  have hf := hln w.drew rfl
  have hfo := hlo w.drew rfl
  cases d <;> simp only [isSeq, Bool.false_eq_true] at hd <;>
    simp [Builtin.append_, run_underlying ht, run_underlying hu, sizeOf, typeInfo, zeroValue, hi, hz, hlen, hn, h63', h48', Question.forced, hf, hfo, newRow, grownCap] <;>
    (congr 2; apply Array.ext'; simp [List.append_assoc])

theorem run_append_stay {P : Program} (w w' : World) {t u ty e : TypeId} {i : TypeInfo} {d : TypeDesc} (ht : P.underlying t = some (.slice e)) (hu : P.underlying u = some d) (hd : isSeq d = true) (hi : P.info? e = some i)
    (a : Addr) (sLen sCap : Nat) (x : Value) (n : Nat) (news : List Value)
    (hln : (Builtin.firstCells i.size n x).run P w = .ok news.toArray w) (hlen : (Builtin.lenOf x).run P w = .ok n w)
    (hg : sLen + n ≤ sCap) (hst : (storeCells (a.add (sLen * i.size)) news).run P w = .ok () w') :
    (Builtin.append_ #[t, u] ty #[.slice (some a) sLen sCap, x]).run P w = .ok (.slice (some a) (sLen + n) sCap) w' := by
  cases d <;> simp only [isSeq, Bool.false_eq_true] at hd <;>
    simp [Builtin.append_, run_underlying ht, run_underlying hu, sizeOf, typeInfo, hi, hlen, hg, hln, hst]

theorem run_append_none {P : Program} (w : World) {t u ty e : TypeId} {i : TypeInfo} {d : TypeDesc} (ht : P.underlying t = some (.slice e)) (hu : P.underlying u = some d) (hd : isSeq d = true) (hi : P.info? e = some i)
    (x : Value) (news : List Value) (hln : (Builtin.firstCells i.size 0 x).run P w = .ok news.toArray w) (hlen : (Builtin.lenOf x).run P w = .ok 0 w) :
    (Builtin.append_ #[t, u] ty #[.slice none 0 0, x]).run P w = .ok (.slice none 0 0) w := by
  cases d <;> simp only [isSeq, Bool.false_eq_true] at hd <;>
    simp [Builtin.append_, run_underlying ht, run_underlying hu, sizeOf, typeInfo, hi, hlen, hln]

end Go.Abs

/-
  A simplified meaning for Go code, eleventh part: what writes, as functions of the abstract heap.
-/

namespace Go.Abs
open Go

/-- `append(nil, make([]E, m)...)`: one call, whose second argument is the number of zeros. -/
def azeros (P : Program) (t u : TypeId) (next : Nat) (s : AV) (m : Int) : Option (AV × AEff) :=
  match P.underlying t, P.underlying u, s with
  | some (.slice e), some (.int _), .nilsl =>
    match P.info? e, azero P e with
    | some info, some z => if z.cells.length = info.size ∧ 0 < m ∧ m.toNat * info.bytes ≤ 140737488355328 ∧ m ≤ 4611686018427387904 then
        some (.sl next 0 info.size m.toNat m.toNat true, .new (.cells (arep z.cells m.toNat)))
      else none
    | _, _ => none
  | _, _, _ => none

def aappend (P : Program) (t u : TypeId) (get : Nat → Option AObj) (next : Nat) (s x : AV) : Option (AV × AEff) :=
  match x with
  | .int _ m => azeros P t u next s m
  | x =>
  match P.underlying t, P.underlying u with
  | some (.slice e), some du => if isSeq du then
    match P.info? e, azero P e, alenOf x with
    | some info, some z, some n => if z.cells.length = info.size then
      match afirst get info.size n x with
      | some news => if news.all AV.scalar = true ∧ news.length = n * info.size then
        match s with
        | .nilsl => if n = 0 then some (.nilsl, .same)
          else if n * info.bytes ≤ 140737488355328 ∧ n ≤ 4611686018427387904 then some (.sl next 0 info.size n n true, .new (.cells news)) else none
        | .vsl cs len => if n = 0 then some (.vsl cs len, .same) else none
        | .csl cs len => if n = 0 then some (.csl cs len, .same)
          else if len * info.size ≤ cs.length ∧ (len + n) * info.bytes ≤ 140737488355328 ∧ len + n ≤ 4611686018427387904 then some (.sl next 0 info.size (len + n) (len + n) true, .new (.cells (cs.take (len * info.size) ++ news)))
          else none
        | .sl i o zz len cap opn => if zz = info.size then
          match get i with
          | some (.cells cs) =>
            if len + n ≤ cap then
              if o + (len + n) * zz ≤ cs.length then some (.sl i o zz (len + n) cap opn, .put i (.cells (splice cs (o + len * zz) news))) else none
            else if o + len * zz ≤ cs.length ∧ (len + n) * info.bytes ≤ 140737488355328 ∧ len + n ≤ 4611686018427387904 then
              if opn then some (.sl next 0 zz (len + n) (len + n) true, .move i (.cells ((cs.drop o).take (len * zz) ++ news)))
              else some (.sl next 0 zz (len + n) (len + n) true, .new (.cells ((cs.drop o).take (len * zz) ++ news)))
            else none
          | _ => none
          else none
        | _ => none
        else none
      | none => none
      else none
    | _, _, _ => none
    else none
  | _, _ => none

theorem afirst_length {get : Nat → Option AObj} {z n : Nat} {x : AV} {cs : List AV} (h : afirst get z n x = some cs) (hz : ∀ s, x = .str s → z = 1) : cs.length = n * z := by
  unfold afirst at h
  split at h
  · split at h
    · rename_i hn; simp only [Option.some.injEq] at h; subst h; subst hn; simp
    · simp at h
  · split at h
    · split at h
      · simp only [Option.some.injEq] at h; subst h; simp; omega
      · simp at h
    · simp at h
  · split at h
    · simp only [Option.some.injEq] at h; subst h; simp; omega
    · simp at h
  · rename_i s
    split at h
    · rename_i hn; simp only [Option.some.injEq] at h; subst h; rw [hz s rfl]; simp [hn]
    · simp at h
  · simp at h

theorem grown {E : Env} {H : AHeap} {w : World} (hR : Rel E H w) {as_ : List AV} {vs tail : List Value} {C : Array Value} {e : TypeId} {m c' z : Nat} (f : VRels E as_ vs) (hl : as_.length = m * z) (hc : m ≤ c')
    (hC : C.toList = vs ++ tail) (ht : tail.length = (c' - m) * z) :
    ∃ E', Ext E E' ∧ Rel E' (H.push (.cells as_)) (w.drew.alloc (.cells C e)) ∧ VRel E' (.sl H.next 0 z m m true) (.slice (some ⟨w.heap.size, 0, none⟩) m c') ∧ ∀ q, E'.φ H.next = some q → q.e = e ∧ q.s = 0 := by
  have hvl := f.length
  have hsz : C.size = c' * z := by
    rw [← Array.length_toList, hC, List.length_append, ht, hvl, hl, ← Nat.add_mul]
    congr 1; omega
  refine ⟨E.put H.next ⟨w.heap.size, 0, C.size, e⟩, Env.put_ext hR.fresh, hR.drew.push (w' := w.drew.alloc (.cells C e)) (c := C) (e := e) (fz := (0, 0)) rfl rfl rfl f (by rw [hC]; exact List.prefix_append _ _) (.inl rfl), ?_, fun q hq => by simp [Env.put] at hq; subst hq; exact ⟨rfl, rfl⟩⟩
  have := VRel.sl (E := E.put H.next ⟨w.heap.size, 0, C.size, e⟩) (i := H.next) (o := 0) (z := z) (len := m) (cap := m) (c' := c') (opn := true) (p := ⟨w.heap.size, 0, C.size, e⟩) (by simp [Env.put]) (Nat.le_refl _) hc (fun h => by simp at h) (by simp [hsz])
  simpa using this

theorem zeroCells_length (z : Array Value) (n : Nat) : (Builtin.zeroCells z n).toList.length = n * z.size := by simp [Builtin.zeroCells]

/-- Of which element type the block is that an append has laid, or taken over. -/
def NewTy (P : Program) (E E' : Env) (n : Nat) (t : TypeId) (s : AV) : Prop :=
  ∀ e, P.underlying t = some (.slice e) → ∀ q, E'.φ n = some q → (q.e = e ∧ q.s = 0) ∨ ∃ i o z l c b p, s = .sl i o z l c b ∧ E.φ i = some p ∧ q.e = p.e ∧ q.s = p.s + o

theorem NewTy.same {P : Program} {E : Env} {n : Nat} (h : E.φ n = none) (t : TypeId) (s : AV) : NewTy P E E n t s := fun _ _ q hq => by rw [h] at hq; simp at hq

theorem run_append_zeros {P : Program} (w : World) {t u ty e : TypeId} {i : TypeInfo} {z : Value} {k k' : IntKind} (ht : P.underlying t = some (.slice e)) (hu : P.underlying u = some (.int k)) (hi : P.info? e = some i) (hz : i.zero = some z)
    (hzs : z.cells.size = i.size) (n : Nat) (hn : 0 < n) (h62 : n ≤ 4611686018427387904) (hb : n * i.bytes ≤ 140737488355328) :
    (Builtin.append_ #[t, u] ty #[.slice none 0 0, .int k' n]).run P w =
      .ok (.slice (some ⟨w.heap.size, 0, none⟩) n (grownCap w n 0 e))
        (w.drew.alloc (.cells (Builtin.zeroCells z.cells n ++ Builtin.zeroCells z.cells (grownCap w n 0 e - n)) e)) := by
  have hw : IntKind.i64.wrap (n : Int) = n := by rw [IntKind.wrap_i64]; omega
  have ha : ∀ w', (asIntOf (.int k' (n : Int))).run P w' = .ok (k', (n : Int)) w' := fun _ => rfl
  have h1 : ¬ ((n : Int) < 0) := by omega
  have h2 : ¬ (281474976710656 < (n : Int) * (i.bytes : Int)) := by
    have : ((n * i.bytes : Nat) : Int) ≤ (140737488355328 : Nat) := Int.ofNat_le.2 hb
    rw [Int.natCast_mul] at this
    omega
  have h3 : ¬ (n = 0) := by omega
  have h4 : ¬ (9223372036854775807 < (n : Int)) := by omega
  have h5 : ¬ (281474976710656 < Builtin.nextslicecap n 0 * i.bytes) := by
    have := growslice_fits (bytes := i.bytes) (need := n) (old := 0) hn hb
    omega
  by_cases hs0 : i.size = 0
  · have hc : z.cells = #[] := Array.eq_empty_of_size_eq_zero (by omega)
    simp [Builtin.append_, run_underlying ht, run_underlying hu, sizeOf, typeInfo, zeroValue, hi, hz, hw, h1, h2, h3, h4, h5, Question.forced, newRow, grownCap, asInt, ha, hc, Builtin.zeroCells, Builtin.firstCells, show Array.range 0 = #[] from rfl]
  · have hne : ¬ (n * i.size = 0) := by rw [Nat.mul_eq_zero]; omega
    simp [Builtin.append_, run_underlying ht, run_underlying hu, sizeOf, typeInfo, zeroValue, hi, hz, hw, h1, h2, h3, h4, h5, Question.forced, newRow, grownCap, asInt, ha, hne, Builtin.firstCells]

theorem azeros_sound {P : Program} {E : Env} {H : AHeap} {w : World} (hR : Rel E H w) {t u ty : TypeId} {s r : AV} {k : IntKind} {m : Int} {eff : AEff} {us : Value}
    (h : azeros P t u H.next s m = some (r, eff)) (hs : VRel E s us) :
    ∃ E' v w', Ext E E' ∧ VRel E' r v ∧ Rel E' (H.eff eff) w' ∧ (Builtin.append_ #[t, u] ty #[us, .int k m]).run P w = .ok v w' ∧ NewTy P E E' H.next t s := by
  unfold azeros at h
  split at h <;> try (simp at h; done)
  rename_i e k' ht hu
  split at h <;> try (simp at h; done)
  rename_i info z hi hz
  split at h <;> try (simp at h; done)
  rename_i hb
  obtain ⟨hzc, hm, hb1, hb2⟩ := hb
  simp only [Option.some.injEq, Prod.mk.injEq] at h; obtain ⟨rfl, rfl⟩ := h
  cases hs
  unfold azero at hz
  rw [hi] at hz
  simp only at hz
  split at hz <;> try (simp at hz; done)
  rename_i zv hzv
  have hzr := ofConst_rel E hz
  have hzl := hzr.cells.length
  rw [hzc] at hzl
  simp only [Array.length_toList] at hzl
  obtain ⟨n, rfl⟩ : ∃ n : Nat, m = n := ⟨m.toNat, by omega⟩
  have hrun := run_append_zeros (P := P) w (ty := ty) (k' := k) ht hu hi hzv hzl n (by omega) (by omega) hb1
  have hzz : (Builtin.zeroCells zv.cells n).toList = vrep zv.cells.toList n := range_map_mod _ _
  have f1 : VRels E (arep z.cells n) (vrep zv.cells.toList n) := arep_rel hzr.cells _
  have hal : (arep z.cells n).length = n * info.size := by rw [← f1.length, vrep_length]; simp [hzl]
  obtain ⟨E', g1, g2, g3, g4⟩ := grown hR (e := e) (c' := grownCap w n 0 e) (C := Builtin.zeroCells zv.cells n ++ Builtin.zeroCells zv.cells (grownCap w n 0 e - n)) (tail := (Builtin.zeroCells zv.cells (grownCap w n 0 e - n)).toList) f1 hal (Nat.le_add_right _ _)
    (by simp [hzz]) (by rw [zeroCells_length, hzl])
  exact ⟨E', _, _, g1, g3, g2, hrun, fun e' he' q hq => by rw [ht] at he'; cases he'; exact .inl (g4 q hq)⟩

theorem aappend_sound' {P : Program} {E : Env} {H : AHeap} {w : World} (hR : Rel E H w) {t u ty : TypeId} {s x r : AV} {eff : AEff} {us ux : Value}
    (h : aappend P t u H.get H.next s x = some (r, eff)) (hs : VRel E s us) (hx : VRel E x ux) :
    ∃ E' v w', Ext E E' ∧ VRel E' r v ∧ Rel E' (H.eff eff) w' ∧ (Builtin.append_ #[t, u] ty #[us, ux]).run P w = .ok v w' ∧ NewTy P E E' H.next t s := by
  have hno := hR.fresh
  unfold aappend at h
  split at h
  · cases hx
    exact azeros_sound hR h hs
  split at h <;> try (simp at h; done)
  rename_i e du ht hu
  split at h <;> try (simp at h; done)
  rename_i hd
  split at h <;> try (simp at h; done)
  rename_i info z n hi hz hn
  split at h <;> try (simp at h; done)
  rename_i hzc
  split at h <;> try (simp at h; done)
  rename_i news hnews
  split at h <;> try (simp at h; done)
  rename_i hsc
  obtain ⟨hsc, hnl⟩ := hsc
  obtain ⟨vs, f1, f2, f3⟩ := afirst_sound (P := P) hR hnews hx
  have hlen := alenOf_sound (P := P) hn hx w
  unfold azero at hz
  rw [hi] at hz
  simp only at hz
  split at hz <;> try (simp at hz; done)
  rename_i zv hzv
  have hzr := ofConst_rel E hz
  have hzl := hzr.cells.length
  rw [hzc] at hzl
  simp only [Array.length_toList] at hzl
  have hfl : vs.length = news.length := f1.length
  split at h <;> try (simp at h; done)
  · -- nil
    cases hs
    split at h
    · rename_i hn0
      subst hn0
      simp only [Option.some.injEq, Prod.mk.injEq] at h; obtain ⟨rfl, rfl⟩ := h
      exact ⟨E, _, w, Ext.refl E, .nilsl, hR, run_append_none w ht hu hd hi ux vs (f2 w rfl) hlen, .same hno _ _⟩
    · rename_i hn0
      split at h <;> try (simp at h; done)
      rename_i hb
      simp only [Option.some.injEq, Prod.mk.injEq] at h; obtain ⟨rfl, rfl⟩ := h
      have hrun := run_append_grow' (P := P) w (ty := ty) ht hu hd hi hzv none 0 0 ux n [] vs (fun w' _ => by simp [Builtin.firstCells]) f2 hlen (by omega) (by omega)
        (growslice_fits (by omega) (by rw [Nat.zero_add]; exact hb.1))
      simp only [Nat.zero_add] at hrun
      obtain ⟨E', g1, g2, g3, g4⟩ := grown hR (e := e) (c' := grownCap w n 0 e) (C := #[] ++ vs.toArray ++ Builtin.zeroCells zv.cells (grownCap w n 0 e - n)) (tail := (Builtin.zeroCells zv.cells (grownCap w n 0 e - n)).toList) f1 hnl (Nat.le_add_right _ _)
        (by simp) (by rw [zeroCells_length, hzl])
      exact ⟨E', _, _, g1, g3, g2, hrun, fun e' he' q hq => by rw [ht] at he'; cases he'; exact .inl (g4 q hq)⟩
  · -- frozen
    split at h <;> try (simp at h; done)
    rename_i hn0
    subst hn0
    simp only [Option.some.injEq, Prod.mk.injEq] at h; obtain ⟨rfl, rfl⟩ := h
    have hs' := hs
    have hvs : vs = [] := by
      have : vs.length = 0 := by rw [hfl, hnl]; simp
      exact List.eq_nil_of_length_eq_zero this
    subst hvs
    cases hs with
    | vsl hK hv hl => exact ⟨E, _, w, Ext.refl E, hs', hR, run_append_stay w w ht hu hd hi _ _ _ ux 0 [] (f2 w rfl) hlen hl (by simp [storeCells]), .same hno _ _⟩
    | vsl0 => exact ⟨E, _, w, Ext.refl E, hs', hR, run_append_stay w w ht hu hd hi _ _ _ ux 0 [] (f2 w rfl) hlen (Nat.le_refl 0) (by simp [storeCells]), .same hno _ _⟩
  · -- frozen, its capacity its length
    rename_i cs len
    have hs' := hs
    cases hs with | csl hK hv =>
    rename_i B o vs0
    split at h
    · rename_i hn0
      subst hn0
      simp only [Option.some.injEq, Prod.mk.injEq] at h; obtain ⟨rfl, rfl⟩ := h
      have hvs : vs = [] := by
        have : vs.length = 0 := by rw [hfl, hnl]; simp
        exact List.eq_nil_of_length_eq_zero this
      subst hvs
      exact ⟨E, _, w, Ext.refl E, hs', hR, run_append_stay w w ht hu hd hi _ _ _ ux 0 [] (f2 w rfl) hlen (Nat.le_refl len) (by simp [storeCells]), .same hno _ _⟩
    · rename_i hn0
      split at h <;> try (simp at h; done)
      rename_i hb
      obtain ⟨hb1, hb2, hb3⟩ := hb
      simp only [Option.some.injEq, Prod.mk.injEq] at h; obtain ⟨rfl, rfl⟩ := h
      obtain ⟨us, k1, k2, _⟩ := afirst_sound (P := P) hR (show afirst H.get info.size len (.vsl cs len) = some (cs.take (len * info.size)) from by simp only [afirst]; rw [if_pos hb1]) (VRel.vsl hK hv (Nat.le_refl len))
      have hgr : len < len + n := by omega
      have hall : VRels E (cs.take (len * info.size) ++ news) (us ++ vs) := k1.append f1
      have hlen2 : (cs.take (len * info.size) ++ news).length = (len + n) * info.size := by
        simp only [List.length_append, List.length_take, hnl, Nat.add_mul]; omega
      have hrun := run_append_grow' (P := P) w (ty := ty) ht hu hd hi hzv (some ⟨B, o, none⟩) len len ux n us vs k2 f2 hlen hgr (by omega) (growslice_fits hgr hb2)
      obtain ⟨E', g1, g2, g3, g4⟩ := grown hR (e := e) (c' := grownCap w (len + n) len e) (C := us.toArray ++ vs.toArray ++ Builtin.zeroCells zv.cells (grownCap w (len + n) len e - (len + n))) (tail := (Builtin.zeroCells zv.cells (grownCap w (len + n) len e - (len + n))).toList) hall hlen2 (Nat.le_add_right _ _)
        (by simp) (by rw [zeroCells_length, hzl])
      exact ⟨E', _, _, g1, g3, g2, hrun, fun e' he' q hq => by rw [ht] at he'; cases he'; exact .inl (g4 q hq)⟩
  · rename_i i o zz len cap opn
    split at h <;> try (simp at h; done)
    rename_i hzz
    subst hzz
    split at h <;> try (simp at h; done)
    rename_i cs hget
    have hs' := hs
    cases hs with | sl hp hl1 hc1 ho1 hroom =>
    rename_i c' p
    have hone := all_oneCell f1 hsc
    have hsrc : ∀ w' : World, w'.heap = w.heap → o + len * info.size ≤ cs.length → ∃ os, (Builtin.firstCells info.size len (.slice (some ⟨p.b, p.s + o, none⟩) len c')).run P w' = .ok os w' := fun w' hw hle => by
      obtain ⟨us, k1, _⟩ := hR.readsAt P hget hp o (len * info.size) hle
      exact ⟨_, by simp only [Builtin.firstCells]; exact k1 w' hw⟩
    split at h
    · -- in place, and it is known
      rename_i hfit
      split at h <;> try (simp at h; done)
      rename_i hin
      simp only [Option.some.injEq, Prod.mk.injEq] at h; obtain ⟨rfl, rfl⟩ := h
      have hle : o + len * info.size + news.length ≤ cs.length := by rw [hnl, Nat.add_assoc, ← Nat.add_mul]; exact hin
      obtain ⟨w', g1, g2⟩ := Rel.writes P i hp news vs cs H w (o + len * info.size) 0 hR hget f1 (fun a ha => List.all_eq_true.1 hsc a ha) (by omega)
      rw [Nat.add_zero] at g2
      refine ⟨E, _, w', Ext.refl E, .sl hp (by omega) hc1 ho1 hroom, g2, ?_, .same hno _ _⟩
      refine run_append_stay w w' ht hu hd hi _ _ _ ux n vs (f2 w rfl) hlen (by omega) ?_
      rw [Addr.add_mk, Nat.add_assoc]
      exact g1
    · rename_i hnofit
      split at h <;> try (simp at h; done)
      rename_i hb
      obtain ⟨hb1, hb2, hb3⟩ := hb
      obtain ⟨us, k1, k2⟩ := hR.readsAt P hget hp o (len * info.size) hb1
      have hall : VRels E ((cs.drop o).take (len * info.size) ++ news) (us ++ vs) := k2.append f1
      have hlen2 : ((cs.drop o).take (len * info.size) ++ news).length = (len + n) * info.size := by
        simp only [List.length_append, List.length_take, List.length_drop, hnl, Nat.add_mul]; omega
      -- where it must grow
      have grow : c' < len + n → ∀ H' : AHeap, Rel E H' w → H'.next = H.next → ∃ E' v w', Ext E E' ∧ VRel E' (.sl H.next 0 info.size (len + n) (len + n) true) v ∧ Rel E' (H'.push (.cells ((cs.drop o).take (len * info.size) ++ news))) w' ∧
          (Builtin.append_ #[t, u] ty #[.slice (some ⟨p.b, p.s + o, none⟩) len c', ux]).run P w = .ok v w' ∧ NewTy P E E' H.next t (.sl i o info.size len cap opn) := fun hgr H' hR' hnx => by
        have hrun := run_append_grow' (P := P) w (ty := ty) ht hu hd hi hzv (some ⟨p.b, p.s + o, none⟩) len c' ux n us vs (fun w' hw => by simp only [Builtin.firstCells]; exact k1 w' hw) f2 hlen hgr (by omega)
          (growslice_fits hgr hb2)
        obtain ⟨E', g1, g2, g3, g4⟩ := grown hR' (e := e) (c' := grownCap w (len + n) c' e) (C := us.toArray ++ vs.toArray ++ Builtin.zeroCells zv.cells (grownCap w (len + n) c' e - (len + n))) (tail := (Builtin.zeroCells zv.cells (grownCap w (len + n) c' e - (len + n))).toList) hall hlen2 (Nat.le_add_right _ _)
          (by simp) (by rw [zeroCells_length, hzl])
        rw [hnx] at g3 g4
        exact ⟨E', _, _, g1, g3, g2, hrun, fun e' he' q hq => by rw [ht] at he'; cases he'; exact .inl (g4 q hq)⟩
      split at h
      · -- nobody knows whether it grows
        simp only [Option.some.injEq, Prod.mk.injEq] at h; obtain ⟨rfl, rfl⟩ := h
        by_cases hgr : c' < len + n
        · exact grow hgr (H.kill i) (hR.kill i) rfl
        · obtain ⟨c, fz, vs0, q1, q2, q3, q4, q5, q6, q7⟩ := hR.cellsOf' hget hp
          have hle2 : p.s + o + len * info.size + vs.length ≤ c.size := by
            rw [q2, hfl, hnl]
            have : (len + n) * info.size ≤ c' * info.size := Nat.mul_le_mul_right _ (by omega)
            rw [Nat.add_mul] at this
            omega
          obtain ⟨w', c2, g1, g2, g3, g4, g5, g6⟩ := raw_stores P p.b p.e fz (p.s + o + len * info.size) vs 0 c w q1 (by omega) (fun x hx1 hx2 => q5.out x (by omega)) hone
          have hc2 : c2.size = p.n := by
            rw [← Array.length_toList, g3]
            simp only [List.length_append, List.length_take, List.length_drop, Array.length_toList]
            omega
          -- what the old cells are
          obtain ⟨us', k1', _⟩ := hR.readsAt P hget hp o (len * info.size) hb1
          have husl : us.length = len * info.size := by have := k2.length; simp at this; omega
          have hus : us = ((vs0.drop o).take (len * info.size)) := by
            have hul := q3.length
            have hl3 : ((vs0.drop o).take (len * info.size)).length = len * info.size := by simp; omega
            have := run_loadCells_list (P := P) w ⟨p.b, p.s + o, none⟩ ((vs0.drop o).take (len * info.size)) (fun j v hj => by
              rw [Addr.add_mk, cell?_of q1]
              have hjn : j < len * info.size := by
                rcases Nat.lt_or_ge j (len * info.size) with q | q
                · exact q
                · rw [List.getElem?_take_eq_none q] at hj; simp at hj
              rw [List.getElem?_take_of_lt hjn, List.getElem?_drop] at hj
              have := prefix_get? q4 hj
              rw [List.getElem?_drop] at this
              rw [show p.s + o + j = p.s + (o + j) by omega]
              simpa using this)
            rw [hl3, k1 w rfl] at this
            simpa using this
          have hpre : us ++ vs <+: c2.toList.drop (p.s + o) := by
            rw [g3, Nat.add_zero]
            have hcl : c.toList.length = c.size := Array.length_toList
            rw [List.drop_append_of_le_length (by rw [List.length_take, hcl]; omega)]
            have e1 : (c.toList.take (p.s + o + len * info.size)).drop (p.s + o) = us := by
              rw [List.drop_take, Nat.add_sub_cancel_left, hus]
              have hq := prefix_take_drop q4 o
              rw [List.drop_drop] at hq
              obtain ⟨tl, htl⟩ := hq
              rw [← htl, List.take_append_of_le_length]
              have hul := q3.length
              simp; omega
            rw [e1, ← List.append_assoc]
            exact List.prefix_append _ _
          have hto := hR.takeOver hget hp (o := o) rfl g2 hc2 q5 hall hpre g4 g5 g6
          refine ⟨_, _, w', Env.put_ext hR.fresh, ?_, hto, run_append_stay w w' ht hu hd hi _ _ _ ux n vs (f2 w rfl) hlen (by omega) (by rw [Addr.add_mk]; exact g1), fun e' _ q hq => by simp [Env.put] at hq; subst hq; exact .inr ⟨_, _, _, _, _, _, p, rfl, hp, rfl, rfl⟩⟩
          have := VRel.sl (E := E.put H.next ⟨p.b, p.s + o, p.n, p.e⟩) (i := H.next) (o := 0) (z := info.size) (len := len + n) (cap := len + n) (c' := c') (opn := true) (p := ⟨p.b, p.s + o, p.n, p.e⟩) (by simp [Env.put]) (Nat.le_refl _) (by omega) (fun h => by simp at h) (by simpa using hroom)
          simpa using this
      · -- it is known that it grows
        rename_i hop
        simp only [Option.some.injEq, Prod.mk.injEq] at h; obtain ⟨rfl, rfl⟩ := h
        have := ho1 (by simpa using hop)
        exact grow (by omega) H hR rfl

theorem aappend_sound {P : Program} {E : Env} {H : AHeap} {w : World} (hR : Rel E H w) {t u ty : TypeId} {s x r : AV} {eff : AEff} {us ux : Value}
    (h : aappend P t u H.get H.next s x = some (r, eff)) (hs : VRel E s us) (hx : VRel E x ux) :
    ∃ E' v w', Ext E E' ∧ VRel E' r v ∧ Rel E' (H.eff eff) w' ∧ (Builtin.append_ #[t, u] ty #[us, ux]).run P w = .ok v w' := by
  obtain ⟨E', v, w', h1, h2, h3, h4, _⟩ := aappend_sound' hR h hs hx (ty := ty)
  exact ⟨E', v, w', h1, h2, h3, h4⟩

end Go.Abs

/-
  A simplified meaning for Go code: maps, what writes.
-/

namespace Go.Abs
open Go

/-- m[k] = v -/
def amapput (P : Program) (t : TypeId) (get : Nat → Option AObj) (x k v : AV) : Option AEff := match P.underlying t with
  | some (.map kt _) => match P.underlying kt with
    | some d => if keyed d then match x with
        | .map i => match get i with
          | some (.map es) => match afind d k es 0 with
            | some (some (j, _)) => some (.put i (.map (es.set j (k, v))))
            | some none => some (.put i (.map (es ++ [(k, v)])))
            | none => none
          | _ => none
        | _ => none
      else none
    | none => none
  | _ => none

/-- A map is written. -/
theorem Rel.setMap {E : Env} {H : AHeap} {w : World} (h : Rel E H w) {i : Nat} {es0 : List (AV × AV)} (hi : H.get i = some (.map es0)) {p : Place} (hp : E.φ i = some p) {es : List (AV × AV)} {ents : Array MapEntry} {clk : Nat}
    (h1 : VRels E (es.map Prod.fst) (ents.toList.map MapEntry.key)) (h2 : VRels E (es.map Prod.snd) (ents.toList.map MapEntry.val)) (P : Program) :
    ∃ w', (setObj p.b (.map ents clk)).run P w = .ok () w' ∧ Rel E (H.set i (.map es)) w' := by
  obtain ⟨ents0, clk0, g4, _, _, g2, g3⟩ := h.mapOf hi hp
  have hlt : p.b < w.heap.size := (Array.getElem?_eq_some_iff.1 g4).1
  refine ⟨{ w with heap := w.heap.setIfInBounds p.b (.map ents clk) }, by simp [setObj, Sem.run, g4], ?_⟩
  have hne : ∀ B o, w.heap[B]? = some o → B ≠ p.b → (w.heap.setIfInBounds p.b (.map ents clk))[B]? = some o := fun B o hb hB => by
    rw [Array.getElem?_setIfInBounds_ne (fun e => hB e.symm)]; exact hb
  refine ⟨h.os, h.out, fun B o hb => hne B o (h.K B o hb) (fun e => by subst e; rw [g2] at hb; simp at hb), fun B o hb => hne B o (h.F B o hb) (fun e => by subst e; rw [g3] at hb; simp at hb), h.KF, h.dom, ?_, ?_⟩
  · intro j y hj
    simp only [AHeap.set] at hj
    split at hj
    · rename_i hji; subst hji
      simp only [Option.some.injEq] at hj; subst hj
      exact ⟨p, .map ents clk, hp, g2, g3, by simp [hlt], ents, clk, rfl, h1, h2⟩
    · rename_i hji
      obtain ⟨q, o, k1, k2, k3, k4, k5⟩ := h.live j y hj
      exact ⟨q, o, k1, k2, k3, hne _ _ k4 (fun e => hji (h.inj j i y _ q p hj hi k1 hp e)), k5⟩
  · intro a b y z q r hy hz
    have tr : ∀ k z, (H.set i (.map es)).get k = some z → ∃ z', H.get k = some z' := fun k z hk => by
      simp only [AHeap.set] at hk
      split at hk
      · rename_i e; subst e; exact ⟨_, hi⟩
      · exact ⟨z, hk⟩
    obtain ⟨y', hy'⟩ := tr _ _ hy
    obtain ⟨z', hz'⟩ := tr _ _ hz
    exact h.inj a b y' z' q r hy' hz'

theorem same_bits {d : TypeDesc} {u v : Value} (h : Instr.sameNow d u v = some true) (n : Nat) : Instr.sameBits n v u = true := by
  unfold Instr.sameNow at h
  split at h
  · split at h
    · rename_i hk
      subst hk
      simp only [Option.some.injEq, beq_iff_eq] at h; subst h
      cases n <;> simp [Instr.sameBits]
    · simp at h
  · rename_i a b
    simp only [Option.some.injEq] at h
    have h' : (b == a) = true := by
      rw [beq_toListBytes, beq_iff_eq] at h ⊢
      exact h.symm
    cases n <;> simpa [Instr.sameBits] using h'
  · simp only [Option.some.injEq, beq_iff_eq] at h; subst h
    cases n <;> simp [Instr.sameBits]
  · simp at h

theorem map_modify {α β : Type} (f : α → β) (l : Array α) (j : Nat) (g : α → α) {x : α} (hx : l.toList[j]? = some x) : ((l.modify j g).toList.map f) = (l.toList.map f).set j (f (g x)) := by
  apply List.ext_getElem?
  intro k
  simp only [List.getElem?_map, Array.getElem?_toList, Array.getElem?_modify, List.getElem?_set, List.length_map, Array.length_toList] at *
  by_cases e : j = k
  · subst e
    have hlt : j < l.size := (Array.getElem?_eq_some_iff.1 hx).1
    have e : l[j] = x := by
      rw [Array.getElem?_eq_getElem hlt] at hx
      simpa using hx
    simp [hlt, e]
  · rw [if_neg e, if_neg e]

theorem amapput_sound {P : Program} {E : Env} {H : AHeap} {w : World} (hR : Rel E H w) {t : TypeId} {x k a : AV} {e : AEff} {u v y : Value} (h : amapput P t H.get x k a = some e) (hx : VRel E x u) (hk : VRel E k v) (ha : VRel E a y) :
    ∃ w', Rel E (H.eff e) w' ∧ (Instr.mapUpdate t u v y).run P w = .ok () w' := by
  unfold amapput at h
  split at h <;> try (simp at h; done)
  rename_i kt et ht
  split at h <;> try (simp at h; done)
  rename_i d hd
  split at h <;> try (simp at h; done)
  rename_i hkd
  split at h <;> try (simp at h; done)
  rename_i i
  split at h <;> try (simp at h; done)
  rename_i es hes
  cases hx with | map hp =>
  rename_i p
  obtain ⟨ents, clk, g1, g2, g3, _, _⟩ := hR.mapOf hes hp
  split at h <;> try (simp at h; done)
  · rename_i j b hf
    simp only [Option.some.injEq] at h; subst h
    obtain ⟨en, k1, _, k3, k4, k5⟩ := afind_sound hk hf g2 g3
    rw [Nat.sub_zero] at k3
    have hget : ents[j]? = some en := by simpa using k3
    have hb := same_bits k5 10000
    obtain ⟨w', q1, q2⟩ := hR.setMap hes hp (es := es.set j (k, a)) (ents := ents.modify j fun e => { e with key := v, val := y }) (clk := clk)
      (by rw [List.map_set, map_modify MapEntry.key ents j _ k3]; exact g2.set j hk) (by rw [List.map_set, map_modify MapEntry.val ents j _ k3]; exact g3.set j ha) P
    refine ⟨w', q2, ?_⟩
    simp only [Instr.mapUpdate, Sem.run_bind, run_underlying ht, Result.andThen_ok, run_getMap g1]
    rw [run_checkKey hd hkd]
    simp only [Sem.run_bind, run_findKey (P := P) hd k1, Result.andThen_ok, Instr.keyThatStays, hget, Option.map_some, Option.getD_some, hb, if_true, Sem.run_pure]
    exact q1
  · rename_i hf
    simp only [Option.some.injEq] at h; subst h
    have k1 := afind_sound hk hf g2 g3
    simp only at k1
    obtain ⟨w', q1, q2⟩ := hR.setMap hes hp (es := es ++ [(k, a)]) (ents := ents.push { key := v, val := y, born := clk }) (clk := clk + 1)
      (by simpa using g2.append (.cons hk .nil)) (by simpa using g3.append (.cons ha .nil)) P
    refine ⟨w', q2, ?_⟩
    simp only [Instr.mapUpdate, Sem.run_bind, run_underlying ht, Result.andThen_ok, run_getMap g1]
    rw [run_checkKey hd hkd]
    simp only [run_findKey (P := P) hd k1, Result.andThen_ok]
    exact q1

/-- delete(m, k) -/
def amapdel (P : Program) (t : TypeId) (get : Nat → Option AObj) (x k : AV) : Option AEff := match P.underlying t with
  | some (.map kt _) => match P.underlying kt with
    | some d => if keyed d then match x with
        | .nilmap => some .same
        | .map i => match get i with
          | some (.map es) => match afind d k es 0 with
            | some (some (j, _)) => some (.put i (.map (es.eraseIdx j)))
            | some none => some (.put i (.map es))
            | none => none
          | _ => none
        | _ => none
      else none
    | none => none
  | _ => none

theorem map_eraseIdx {α β : Type} (f : α → β) : ∀ (l : List α) (n : Nat), (l.eraseIdx n).map f = (l.map f).eraseIdx n
  | [], _ => rfl
  | a :: l, 0 => rfl
  | a :: l, n + 1 => by simp [map_eraseIdx f l n]

theorem VRels.eraseIdx {E : Env} {as_ : List AV} {vs : List Value} (h : VRels E as_ vs) (n : Nat) : VRels E (as_.eraseIdx n) (vs.eraseIdx n) := by
  induction n generalizing as_ vs with
  | zero => cases h with
    | nil => exact .nil
    | cons h t => exact t
  | succ n ih => cases h with
    | nil => exact .nil
    | cons h t => exact .cons h (ih t)

theorem amapdel_sound {P : Program} {E : Env} {H : AHeap} {w : World} (hR : Rel E H w) {t t2 ty : TypeId} {x k : AV} {e : AEff} {u v : Value} (h : amapdel P t H.get x k = some e) (hx : VRel E x u) (hk : VRel E k v) :
    ∃ w', Rel E (H.eff e) w' ∧ (Builtin.delete_ #[t, t2] ty #[u, v]).run P w = .ok (.tuple #[]) w' := by
  unfold amapdel at h
  split at h <;> try (simp at h; done)
  rename_i kt et ht
  split at h <;> try (simp at h; done)
  rename_i d hd
  split at h <;> try (simp at h; done)
  rename_i hkd
  split at h <;> try (simp at h; done)
  · simp only [Option.some.injEq] at h; subst h
    cases hx
    refine ⟨w, hR, ?_⟩
    simp [Builtin.delete_, run_underlying ht, run_checkKey hd hkd]
  rename_i i
  split at h <;> try (simp at h; done)
  rename_i es hes
  cases hx with | map hp =>
  rename_i p
  obtain ⟨ents, clk, g1, g2, g3, _, _⟩ := hR.mapOf hes hp
  split at h <;> try (simp at h; done)
  · rename_i j b hf
    simp only [Option.some.injEq] at h; subst h
    obtain ⟨en, k1, _, k3, k4, k5⟩ := afind_sound hk hf g2 g3
    have e1 : ∀ {β : Type} (f : MapEntry → β), (ents.eraseIdxIfInBounds j).toList.map f = (ents.toList.map f).eraseIdx j := fun f => by
      rw [← map_eraseIdx]; congr 1; simp
    obtain ⟨w', q1, q2⟩ := hR.setMap hes hp (es := es.eraseIdx j) (ents := ents.eraseIdxIfInBounds j) (clk := clk)
      (by rw [e1, map_eraseIdx]; exact g2.eraseIdx j) (by rw [e1, map_eraseIdx]; exact g3.eraseIdx j) P
    refine ⟨w', q2, ?_⟩
    simp only [Builtin.delete_]
    simp [run_underlying ht, run_getMap g1, run_checkKey hd hkd, run_findKey (P := P) hd k1, q1]
  · rename_i hf
    simp only [Option.some.injEq] at h; subst h
    have k1 := afind_sound hk hf g2 g3
    simp only at k1
    obtain ⟨w', q1, q2⟩ := hR.setMap hes hp (es := es) (ents := ents) (clk := clk) g2 g3 P
    refine ⟨w', q2, ?_⟩
    simp only [Builtin.delete_]
    simp [run_underlying ht, run_getMap g1, run_checkKey hd hkd, run_findKey (P := P) hd k1, q1]
end Go.Abs

/-
  A simplified meaning for Go code, twelfth part: store, copy, clear; all that writes, together.
-/

namespace Go.Abs
open Go

def acopy (P : Program) (t : TypeId) (get : Nat → Option AObj) (d s : AV) : Option (AV × AEff) :=
  match P.underlying t with
  | some (.slice e) => match asize P e, alenOf d, alenOf s with
    | some z, some dl, some sl => match afirst get z (min sl dl) s with
      | some news => if news.all AV.scalar = true ∧ news.length = min sl dl * z then
        match d with
        | .nilsl => some (.int .i64 0, .same)
        | .sl i o zz _ _ _ => if zz = z then
          match get i with
          | some (.cells cs) => if o + news.length ≤ cs.length then some (.int .i64 (min sl dl : Nat), .put i (.cells (splice cs o news))) else none
          | _ => none
          else none
        | .vsl _ _ => if min sl dl = 0 then some (.int .i64 0, .same) else none
        | _ => none
        else none
      | none => none
    | _, _, _ => none
  | _ => none

theorem acopy_sound {P : Program} {E : Env} {H : AHeap} {w : World} (hR : Rel E H w) {t u ty : TypeId} {d s r : AV} {eff : AEff} {ud us : Value}
    (h : acopy P t H.get d s = some (r, eff)) (hd : VRel E d ud) (hs : VRel E s us) :
    ∃ E' v w', Ext E E' ∧ VRel E' r v ∧ Rel E' (H.eff eff) w' ∧ (Builtin.copy_ #[t, u] ty #[ud, us]).run P w = .ok v w' := by
  unfold acopy at h
  split at h <;> try (simp at h; done)
  rename_i e ht
  split at h <;> try (simp at h; done)
  rename_i z dl sl hz hdl hsl
  split at h <;> try (simp at h; done)
  rename_i news hnews
  split at h <;> try (simp at h; done)
  rename_i hb
  obtain ⟨hsc, hnl⟩ := hb
  obtain ⟨vs, f1, f2, f3⟩ := afirst_sound (P := P) hR hnews hs
  have hlen := alenOf_sound (P := P) hsl hs w
  have f2' := f2 w rfl
  split at h <;> try (simp at h; done)
  · simp only [Option.some.injEq, Prod.mk.injEq] at h; obtain ⟨rfl, rfl⟩ := h
    simp only [alenOf, Option.some.injEq] at hdl
    subst hdl
    cases hd
    refine ⟨E, .int .i64 0, w, Ext.refl E, .int _ _, hR, ?_⟩
    simp only [Nat.min_zero] at f2'
    simp [Builtin.copy_, run_underlying ht, hlen, run_asize hz, f2', goInt]
  · rename_i i o zz len cap opn
    split at h <;> try (simp at h; done)
    rename_i hzz
    subst hzz
    split at h <;> try (simp at h; done)
    rename_i cs hget
    split at h <;> try (simp at h; done)
    rename_i hin
    simp only [Option.some.injEq, Prod.mk.injEq] at h; obtain ⟨rfl, rfl⟩ := h
    simp only [alenOf, Option.some.injEq] at hdl
    subst hdl
    cases hd with | sl hp hl1 hc1 ho1 hroom =>
    rename_i c' p
    obtain ⟨w', g1, g2⟩ := Rel.writes P i hp news vs cs H w o 0 hR hget f1 (fun a ha => List.all_eq_true.1 hsc a ha) (by omega)
    rw [Nat.add_zero] at g2
    refine ⟨E, .int .i64 (min sl len : Nat), w', Ext.refl E, .int _ _, g2, ?_⟩
    simp [Builtin.copy_, run_underlying ht, hlen, run_asize hz, f2', goInt, g1]
  · rename_i cs len
    split at h <;> try (simp at h; done)
    rename_i hm
    simp only [Option.some.injEq, Prod.mk.injEq] at h; obtain ⟨rfl, rfl⟩ := h
    simp only [alenOf, Option.some.injEq] at hdl
    subst hdl
    have hvs : vs = [] := by
      have : vs.length = 0 := by rw [f1.length, hnl, hm]; simp
      exact List.eq_nil_of_length_eq_zero this
    subst hvs
    rw [hm] at f2'
    cases hd <;>
    refine ⟨E, .int .i64 0, w, Ext.refl E, .int _ _, hR, ?_⟩ <;>
    simp [Builtin.copy_, run_underlying ht, hlen, run_asize hz, hm, f2', goInt, storeCells]

def aclear (P : Program) (t : TypeId) (get : Nat → Option AObj) (x : AV) : Option (AV × AEff) :=
  match P.underlying t with
  | some (.slice e) => match x with
    | .nilsl => some (.tuple [], .same)
    | .vsl _ 0 => some (.tuple [], .same)
    | .sl i o zz n _ _ => if n = 0 then some (.tuple [], .same) else
      match get i, azero P e with
      | some (.cells cs), some z => if z.cells.length = zz ∧ z.cells.all AV.scalar = true ∧ o + n * zz ≤ cs.length then some (.tuple [], .put i (.cells (splice cs o (arep z.cells n)))) else none
      | _, _ => none
    | _ => none
  | _ => none

theorem arep_length (zs : List AV) : ∀ c, (arep zs c).length = c * zs.length
  | 0 => by simp [arep]
  | c + 1 => by simp [arep, arep_length zs c, Nat.add_mul, Nat.add_comm]

theorem arep_all (zs : List AV) (h : ∀ a ∈ zs, a.scalar = true) : ∀ c, ∀ a ∈ arep zs c, a.scalar = true
  | 0, a, ha => by simp [arep] at ha
  | c + 1, a, ha => by
    simp only [arep, List.mem_append] at ha
    rcases ha with ha | ha
    · exact h a ha
    · exact arep_all zs h c a ha

theorem zeroCells_eq (z : Array Value) (n : Nat) : (Builtin.zeroCells z n).toList = vrep z.toList n := range_map_mod z n

theorem aclear_sound {P : Program} {E : Env} {H : AHeap} {w : World} (hR : Rel E H w) {t ty : TypeId} {x r : AV} {eff : AEff} {u : Value}
    (h : aclear P t H.get x = some (r, eff)) (hx : VRel E x u) :
    ∃ E' v w', Ext E E' ∧ VRel E' r v ∧ Rel E' (H.eff eff) w' ∧ (Builtin.clear_ #[t] ty #[u]).run P w = .ok v w' := by
  unfold aclear at h
  split at h <;> try (simp at h; done)
  rename_i e ht
  have tup : VRel E (.tuple []) (.tuple #[]) := .tuple .nil
  split at h <;> try (simp at h; done)
  · simp only [Option.some.injEq, Prod.mk.injEq] at h; obtain ⟨rfl, rfl⟩ := h
    cases hx
    exact ⟨E, _, w, Ext.refl E, tup, hR, by simp [Builtin.clear_, run_underlying ht]⟩
  · simp only [Option.some.injEq, Prod.mk.injEq] at h; obtain ⟨rfl, rfl⟩ := h
    cases hx <;>
    exact ⟨E, _, w, Ext.refl E, tup, hR, by simp [Builtin.clear_, run_underlying ht]⟩
  · rename_i i o zz n cap opn
    split at h
    · rename_i hn
      subst hn
      simp only [Option.some.injEq, Prod.mk.injEq] at h; obtain ⟨rfl, rfl⟩ := h
      cases hx
      exact ⟨E, _, w, Ext.refl E, tup, hR, by simp [Builtin.clear_, run_underlying ht]⟩
    · rename_i hn
      split at h <;> try (simp at h; done)
      rename_i cs z hget hz
      split at h <;> try (simp at h; done)
      rename_i hb
      obtain ⟨hb1, hb2, hb3⟩ := hb
      simp only [Option.some.injEq, Prod.mk.injEq] at h; obtain ⟨rfl, rfl⟩ := h
      obtain ⟨zv, h1, h2⟩ := run_azero E hz
      cases hx with | sl hp hl1 hc1 ho1 hroom =>
      rename_i c' p
      obtain ⟨w', g1, g2⟩ := Rel.writes P i hp (arep z.cells n) (vrep zv.cells.toList n) cs H w o 0 hR hget (arep_rel h1.cells n) (arep_all _ (fun a ha => List.all_eq_true.1 hb2 a ha) n)
        (by rw [arep_length, hb1]; omega)
      rw [Nat.add_zero] at g2
      refine ⟨E, _, w', Ext.refl E, tup, g2, ?_⟩
      obtain ⟨m, rfl⟩ : ∃ m, n = m + 1 := ⟨n - 1, by omega⟩
      simp [Builtin.clear_, run_underlying ht, h2, zeroCells_eq, g1]

/-- A string's bytes as cells. -/
def strCs (s : List UInt8) : List AV := s.map fun b => .int .u8 b.toNat

/-- What is known of a block's element type. -/
def AObj.ty : AObj → Option TypeId
  | .cells _ => none
  | .row t _ => some t
  | .map _ => none

/-- What was forgotten of a heap's element types is known again. -/
theorem Rel.typed {E : Env} {H1 H2 : AHeap} {w : World} (h : Rel E H1 w) (hn : H1.next = H2.next)
    (hs : ∀ k x, H2.get k = some x → H1.get k = some x.flat ∧ ∀ t, x.ty = some t → ∀ q, E.φ k = some q → q.e = t ∧ q.s = 0) : Rel E H2 w := by
  refine ⟨h.os, h.out, h.K, h.F, h.KF, fun i p hp => by rw [← hn]; exact h.dom i p hp, fun i x hi => ?_, fun i j x y p q hi hj => h.inj i j _ _ p q (hs i x hi).1 (hs j y hj).1⟩
  obtain ⟨h1, h2⟩ := hs i x hi
  obtain ⟨p, ob, g1, g2, g3, g4, g5⟩ := h.live i _ h1
  refine ⟨p, ob, g1, g2, g3, g4, ?_⟩
  cases x with
  | cells cs => exact g5
  | row t cs => exact ⟨g5, h2 t rfl p g1⟩
  | map es => exact g5

/-- A row's place bears its type. -/
theorem Rel.rowTy {E : Env} {H : AHeap} {w : World} (h : Rel E H w) {k : Nat} {x : AObj} (hk : H.get k = some x) {t : TypeId} (ht : x.ty = some t) {q : Place} (hq : E.φ k = some q) : q.e = t ∧ q.s = 0 := by
  obtain ⟨p, ob, g1, _, _, _, g5⟩ := h.live k x hk
  rw [hq] at g1; cases g1
  cases x with
  | cells cs => simp [AObj.ty] at ht
  | row u cs => simp only [AObj.ty, Option.some.injEq] at ht; subst ht; exact g5.2
  | map es => simp [AObj.ty] at ht

theorem Rel.rowTy' {E E' : Env} {H : AHeap} {w : World} (h : Rel E H w) (hx : Ext E E') {k : Nat} {x : AObj} (hk : H.get k = some x) {t : TypeId} (ht : x.ty = some t) {q : Place} (hq : E'.φ k = some q) : q.e = t ∧ q.s = 0 := by
  obtain ⟨p, hp⟩ := h.place hk
  have := hx.φ _ _ hp
  rw [hq] at this; cases this
  exact h.rowTy hk ht hp

theorem ORel.refz {E : Env} {p : Place} {x : AObj} {c : Array Value} {e : TypeId} {fz fz' : Nat × Nat} (h : ORel E p x (.cells c e fz)) (hz : Unfr fz' p.n) : ORel E p x (.cells c e fz') := by
  cases x with
  | cells cs =>
    obtain ⟨_, _, _, vs, h1, h2, h3, h4, _, h6⟩ := h
    cases h1
    exact ⟨_, _, _, vs, rfl, h2, h3, h4, hz, h6⟩
  | row t cs =>
    obtain ⟨⟨_, _, _, vs, h1, h2, h3, h4, _, h6⟩, h7⟩ := h
    cases h1
    exact ⟨⟨_, _, _, vs, rfl, h2, h3, h4, hz, h6⟩, h7⟩
  | map es =>
    obtain ⟨_, _, h1, _⟩ := h
    cases h1

/-- The mark that a conversion of a constant text lays behind a block's end. -/
theorem Rel.mark {E : Env} {H : AHeap} {w : World} (hR : Rel E H w) {i : Nat} {x : AObj} (hi : H.get i = some x) {p : Place} (hp : E.φ i = some p) (hx : ∀ es, x ≠ .map es) (P : Program) (o : Nat) :
    ∃ w', (markStringish ⟨p.b, o, none⟩).run P w = .ok () w' ∧ Rel E H w' := by
  obtain ⟨c, fz, h1, h2, h5⟩ := hR.elem hi hp hx
  obtain ⟨q0, ob0, k0, h6, h7, k1, k2⟩ := hR.live i x hi
  rw [hp] at k0; cases k0
  rw [h1] at k1; cases k1
  obtain ⟨lo, hi'⟩ := fz
  have hshape : w.shape? p.b = some (p.e, c.size) := by simp [World.shape?, h1]
  refine ⟨w.freeze { block := p.b, off := c.size } 1, ?_, ?_⟩
  · simp only [markStringish, Sem.run_bind, run_shape, Result.andThen_ok, hshape]
    rfl
  · have hfz : Unfr (if lo == hi' then (c.size, c.size + 1) else (min lo c.size, max hi' (c.size + 1))) p.n := by
      rw [h2]
      split
      · exact .inr (Nat.le_refl _)
      · rename_i hne
        rcases h5 with h5 | h5
        · simp at hne; exact absurd h5 hne
        · exact .inr (by simp only at h5 ⊢; omega)
    have hsame : (w.freeze { block := p.b, off := c.size } 1).heap[p.b]? = some (.cells c p.e (if lo == hi' then (c.size, c.size + 1) else (min lo c.size, max hi' (c.size + 1)))) := by
      simp only [World.freeze]
      rw [if_neg (by omega)]
      simp only [Array.getElem?_modify]
      simp [h1]
    have hoth : ∀ C, C ≠ p.b → (w.freeze { block := p.b, off := c.size } 1).heap[C]? = w.heap[C]? := fun C hC => by
      simp only [World.freeze]
      rw [if_neg (by omega)]
      simp only [Array.getElem?_modify]
      rw [if_neg (fun e => hC e.symm)]
    have hos : (w.freeze { block := p.b, off := c.size } 1).os = w.os := by simp only [World.freeze]; rw [if_neg (by omega)]
    have hout : (w.freeze { block := p.b, off := c.size } 1).output = w.output := by simp only [World.freeze]; rw [if_neg (by omega)]
    refine ⟨hos.trans hR.os, hout.trans hR.out, fun B ob hB => ?_, fun B ob hB => ?_, hR.KF, hR.dom, ?_, hR.inj⟩
    · rw [hoth B (fun q => by subst q; rw [h6] at hB; simp at hB)]; exact hR.K B ob hB
    · rw [hoth B (fun q => by subst q; rw [h7] at hB; simp at hB)]; exact hR.F B ob hB
    · intro j y hj
      obtain ⟨q, ob, g1, g2, g3, g4, g5⟩ := hR.live j y hj
      by_cases hji : j = i
      · subst hji
        rw [hp] at g1; cases g1
        rw [hi] at hj; cases hj
        exact ⟨p, _, hp, h6, h7, hsame, k2.refz hfz⟩
      · exact ⟨q, ob, g1, g2, g3, by rw [hoth q.b (fun r => hji (hR.inj j i y _ q p hj hi g1 hp r))]; exact g4, g5⟩

def aeff (P : Program) (ρ : Operand → Option AV) (get : Nat → Option AObj) (next : Nat) (o : Oper) : Option (AV × AEff) :=
  match o.op with
  | .store t x v => match ρ x, ρ v with
    | some (.ptr i off), some a => match get i, asize P t with
      | some (.cells cs), some n => if a.cells.length = n ∧ a.cells.all AV.scalar = true ∧ off + n ≤ cs.length then some (.tuple [], .put i (.cells (splice cs off a.cells))) else none
      | _, _ => none
    | _, _ => none
  | .mapUpdate t m k x | .insert t m k x => match ρ m, ρ k, ρ x with
    | some a, some b, some c => (amapput P t get a b c).map fun e => (.tuple [], e)
    | _, _, _ => none
  | .convert s d x => match P.underlying s, P.underlying d, ρ x with
    | some (.slice _), some (.slice e), some (.sl i o z len cap opn) => match P.underlying e, get i with
      | some (.int .u8), some (.cells _) => if s = d then some (.sl i o z len cap opn, .same) else none
      | _, _ => none
    | _, _, _ => none
  | .call c => match c.callee, c.argTypes.toList, c.args.toList with
    | .builtin .append, [t, u], [x, y] => match ρ x, ρ y with
      | some a, some b => aappend P t u get next a b
      | _, _ => none
    | .builtin .copy, [t, _], [x, y] => match ρ x, ρ y with
      | some a, some b => acopy P t get a b
      | _, _ => none
    | .builtin .clear, [t], [x] => match ρ x with
      | some a => aclear P t get a
      | none => none
    | .builtin .delete, [t, _], [x, y] => match ρ x, ρ y with
      | some a, some b => (amapdel P t get a b).map fun e => (.tuple [], e)
      | _, _ => none
    | _, _, _ => none
  | _ => none

theorem OpRes.of {P : Program} {E : Env} {w : World} {s : Sem Value} {n : Sem Next} {r : AV} {H' : AHeap} (h : ∃ E' v w', Ext E E' ∧ VRel E' r v ∧ Rel E' H' w' ∧ s.run P w = .ok v w') (e : n = (do pure (.value (← s)))) : OpRes P E w n r H' := by
  obtain ⟨E', v, w', h1, h2, h3, h4⟩ := h
  exact ⟨E', v, w', h1, h2, h3, .inl (by rw [e]; simp [h4])⟩

theorem aeff_sound {P : Program} {E : Env} {ρ : Operand → Option AV} {σ : Operand → Value} {o : Oper} {r : AV} {eff : AEff} {H : AHeap} {w : World} (hR : Rel E H w) (hr : Operands E ρ σ o.op.operands.toList) (h : aeff P ρ H.get H.next o = some (r, eff)) :
    OpRes P E w (execOp σ o) r (H.eff eff) := by
  obtain ⟨dst, op, ty, pos, after, guard⟩ := o
  cases op <;> simp only [aeff] at h <;> simp only [Op.operands] at hr <;> try (simp at h; done)
  case mapUpdate t m k x =>
    split at h <;> try (simp at h; done)
    rename_i a b c ha hb hc
    simp only [Option.map_eq_some_iff, Prod.mk.injEq] at h
    obtain ⟨e, he, rfl, rfl⟩ := h
    obtain ⟨w', g1, g2⟩ := amapput_sound hR he (hr m (by simp) _ ha) (hr k (by simp) _ hb) (hr x (by simp) _ hc)
    exact ⟨E, undef, w', Ext.refl E, .tuple .nil, g1, .inr ⟨by simp [execOp, g2], rfl⟩⟩
  case insert t m k x =>
    split at h <;> try (simp at h; done)
    rename_i a b c ha hb hc
    simp only [Option.map_eq_some_iff, Prod.mk.injEq] at h
    obtain ⟨e, he, rfl, rfl⟩ := h
    obtain ⟨w', g1, g2⟩ := amapput_sound hR he (hr m (by simp) _ ha) (hr k (by simp) _ hb) (hr x (by simp) _ hc)
    exact ⟨E, undef, w', Ext.refl E, .tuple .nil, g1, .inr ⟨by simp [execOp, g2], rfl⟩⟩
  case store t x v =>
    split at h <;> try (simp at h; done)
    rename_i i off a hx hv
    split at h <;> try (simp at h; done)
    rename_i cs n hget hn
    split at h <;> try (simp at h; done)
    rename_i hb
    obtain ⟨hb1, hb2, hb3⟩ := hb
    simp only [Option.some.injEq, Prod.mk.injEq] at h; obtain ⟨rfl, rfl⟩ := h
    have hxv := hr x (by simp) _ hx
    have hvv := hr v (by simp) _ hv
    obtain ⟨p, hp⟩ := hR.place hget
    have e1 : σ x = .pointer (some ⟨p.b, p.s + off, none⟩) := by
      generalize σ x = u at hxv
      cases hxv with | ptr hq => rw [hp] at hq; cases hq; rfl
    obtain ⟨w', g1, g2⟩ := Rel.writes P i hp a.cells (σ v).cells.toList cs H w off 0 hR hget hvv.cells (fun b hb => List.all_eq_true.1 hb2 b hb) (by omega)
    rw [Nat.add_zero] at g2
    refine ⟨E, undef, w', Ext.refl E, .tuple .nil, g2, .inr ⟨?_, rfl⟩⟩
    have hsz : (σ v).cells.size = n := by have := hvv.cells.length; rw [Array.length_toList] at this; omega
    simp [execOp, e1, Instr.storeAt, Instr.sureAddr, storeVar, run_asize hn, hsz, g1]
  case convert s d x =>
    split at h <;> try (simp at h; done)
    rename_i e0 e i off z len cap opn hs hd hx
    split at h <;> try (simp at h; done)
    rename_i y he hget
    split at h <;> try (simp at h; done)
    rename_i hsd
    simp only [Option.some.injEq, Prod.mk.injEq] at h; obtain ⟨rfl, rfl⟩ := h
    have hxv := hr x (by simp) _ hx
    have hxv' := hxv
    generalize hsx : σ x = u at hxv hxv'
    cases hxv with | sl hp hl1 hc1 ho1 hroom =>
    rename_i c' p
    obtain ⟨w', g1, g2⟩ := hR.mark hget hp (fun _ e => by cases e) P (p.s + off)
    refine ⟨E, _, w', Ext.refl E, hxv', g2, .inl ?_⟩
    have hconv : (convert s d (.slice (some ⟨p.b, p.s + off, none⟩) len c')).run P w = .ok (.slice (some ⟨p.b, p.s + off, none⟩) len c') w' := by
      subst hsd
      rw [hd] at hs; cases hs
      simp only [convert, Sem.run_bind, run_underlying hd, Result.andThen_ok, run_underlying he]
      simp [g1]
    simp only [execOp, hsx, Sem.run_bind, hconv, Result.andThen_ok, Sem.run_pure]
  case call c =>
    obtain ⟨callee, args, argTypes⟩ := c
    have harg : ∀ x ∈ args.toList, x ∈ (Call.operands { callee, args, argTypes }).toList := fun x hx => by
      simp only [Call.operands, Array.toList_append, List.mem_append]; exact .inr hx
    simp only at h
    split at h
    · rename_i t u x y hat hxy
      split at h <;> try (simp at h; done)
      rename_i a b ha hb
      have hargs : args = #[x, y] := by cases args; simp_all
      have hat' : argTypes = #[t, u] := by cases argTypes; simp_all
      subst hargs; subst hat'
      refine .of (s := Builtin.append_ #[t, u] ty (#[x, y].map σ)) ?_ rfl
      rw [List.map_toArray]
      exact aappend_sound hR h (hr x (harg x (by simp)) _ ha) (hr y (harg y (by simp)) _ hb)
    · rename_i t u x y hat hxy
      split at h <;> try (simp at h; done)
      rename_i a b ha hb
      have hargs : args = #[x, y] := by cases args; simp_all
      have hat' : argTypes = #[t, u] := by cases argTypes; simp_all
      subst hargs; subst hat'
      refine .of (s := Builtin.copy_ #[t, u] ty (#[x, y].map σ)) ?_ rfl
      rw [List.map_toArray]
      exact acopy_sound hR h (hr x (harg x (by simp)) _ ha) (hr y (harg y (by simp)) _ hb)
    · rename_i t x hat hxy
      split at h <;> try (simp at h; done)
      rename_i a ha
      have hargs : args = #[x] := by cases args; simp_all
      have hat' : argTypes = #[t] := by cases argTypes; simp_all
      subst hargs; subst hat'
      refine .of (s := Builtin.clear_ #[t] ty (#[x].map σ)) ?_ rfl
      rw [List.map_toArray]
      exact aclear_sound hR h (hr x (harg x (by simp)) _ ha)
    · rename_i t u x y hat hxy
      split at h <;> try (simp at h; done)
      rename_i a b ha hb
      have hargs : args = #[x, y] := by cases args; simp_all
      have hat' : argTypes = #[t, u] := by cases argTypes; simp_all
      subst hargs; subst hat'
      simp only [Option.map_eq_some_iff, Prod.mk.injEq] at h
      obtain ⟨e, he, rfl, rfl⟩ := h
      refine .of (s := Builtin.delete_ #[t, u] ty (#[x, y].map σ)) ?_ rfl
      rw [List.map_toArray]
      obtain ⟨w', g1, g2⟩ := amapdel_sound (t2 := u) (ty := ty) hR he (hr x (harg x (by simp)) _ ha) (hr y (harg y (by simp)) _ hb)
      exact ⟨E, _, w', Ext.refl E, .tuple .nil, g1, g2⟩
    · simp at h

end Go.Abs

/-
  A simplified meaning for Go code, thirteenth part: the judgements on operations, code, functions, and their rules.
-/


namespace Go.Abs
open Go

def aop (P : Program) (ρ : Operand → Option AV) (get : Nat → Option AObj) (next : Nat) (o : Oper) : Option (AV × AEff) :=
  match o.op with
  | .load .. => (aread P ρ get o).map fun v => (v, .same)
  | .lookup .. => (aread P ρ get o).map fun v => (v, .same)
  | .convert .. => match apure P ρ o with
    | some v => some (v, .same)
    | none => match aread P ρ get o with
      | some v => some (v, .same)
      | none => match aalloc P ρ o with
        | some (x, f) => some (f next, .new x)
        | none => aeff P ρ get next o
  | .alloc _ | .box .. | .buildSlice .. | .makeSlice .. | .makeMap .. => match aalloc P ρ o with
    | some (x, f) => some (f next, .new x)
    | none => none
  | .store .. | .mapUpdate .. | .insert .. => aeff P ρ get next o
  | .call c => match c.callee with
    | .builtin .append | .builtin .copy | .builtin .clear | .builtin .delete => aeff P ρ get next o
    | .builtin .len => match apure P ρ o with
      | some v => some (v, .same)
      | none => (aread P ρ get o).map fun v => (v, .same)
    | .builtin _ => (apure P ρ o).map fun v => (v, .same)
    | _ => none
  | _ => (apure P ρ o).map fun v => (v, .same)

theorem OpRes.ofPure {P : Program} {E : Env} {σ : Operand → Value} {o : Oper} {v : AV} {H : AHeap} {w : World} (hR : Rel E H w) (h : Gives P E σ o v) : OpRes P E w (execOp σ o) v (H.eff .same) := by
  obtain ⟨u, h1, h2⟩ := h
  exact ⟨E, u, w, Ext.refl E, h1, hR, .inl (h2 w)⟩

theorem OpRes.ofRead {P : Program} {E : Env} {σ : Operand → Value} {o : Oper} {v : AV} {H : AHeap} {w : World} (hR : Rel E H w) (h : Reads P E σ o v w) : OpRes P E w (execOp σ o) v (H.eff .same) := by
  obtain ⟨u, h1, h2⟩ := h
  exact ⟨E, u, w, Ext.refl E, h1, hR, .inl h2⟩

theorem OpRes.ofLays {P : Program} {E : Env} {σ : Operand → Value} {o : Oper} {x : AObj} {f : Nat → AV} {H : AHeap} {w : World} (hR : Rel E H w) (h : Lays P E σ o x f) : OpRes P E w (execOp σ o) (f H.next) (H.eff (.new x)) := by
  obtain ⟨ob, v, w', g1, g2, g3, g4, g5, g6⟩ := h w
  exact ⟨_, v, w', Env.put_ext hR.fresh, g6 _ _ (by simp [Env.put]), hR.pushX g2 g3 g4 g5, .inl g1⟩

theorem aop_sound {P : Program} {E : Env} {ρ : Operand → Option AV} {σ : Operand → Value} {o : Oper} {r : AV} {eff : AEff} {H : AHeap} {w : World} (hR : Rel E H w) (hr : Operands E ρ σ o.op.operands.toList) (h : aop P ρ H.get H.next o = some (r, eff)) :
    OpRes P E w (execOp σ o) r (H.eff eff) := by
  have pureCase : (apure P ρ o).map (fun v => (v, AEff.same)) = some (r, eff) → OpRes P E w (execOp σ o) r (H.eff eff) := fun h => by
    simp only [Option.map_eq_some_iff, Prod.mk.injEq] at h
    obtain ⟨v, h1, rfl, rfl⟩ := h
    exact .ofPure hR (apure_sound hr h1)
  have allocCase : (match aalloc P ρ o with | some (x, f) => some (f H.next, AEff.new x) | none => none) = some (r, eff) → OpRes P E w (execOp σ o) r (H.eff eff) := fun h => by
    split at h
    · rename_i cs f h1
      simp only [Option.some.injEq, Prod.mk.injEq] at h; obtain ⟨rfl, rfl⟩ := h
      exact .ofLays hR (aalloc_sound hr h1)
    · simp at h
  have readCase : (aread P ρ H.get o).map (fun v => (v, AEff.same)) = some (r, eff) → OpRes P E w (execOp σ o) r (H.eff eff) := fun h => by
    simp only [Option.map_eq_some_iff, Prod.mk.injEq] at h
    obtain ⟨v, h1, rfl, rfl⟩ := h
    exact .ofRead hR (aread_sound hR hr h1)
  unfold aop at h
  split at h
  · exact readCase h
  · exact readCase h
  · split at h
    · rename_i v h1
      simp only [Option.some.injEq, Prod.mk.injEq] at h; obtain ⟨rfl, rfl⟩ := h
      exact .ofPure hR (apure_sound hr h1)
    · split at h
      · rename_i v h1
        simp only [Option.some.injEq, Prod.mk.injEq] at h; obtain ⟨rfl, rfl⟩ := h
        exact .ofRead hR (aread_sound hR hr h1)
      · split at h
        · rename_i cs f h1
          simp only [Option.some.injEq, Prod.mk.injEq] at h; obtain ⟨rfl, rfl⟩ := h
          exact .ofLays hR (aalloc_sound hr h1)
        · exact aeff_sound hR hr h
  · exact allocCase h
  · exact allocCase h
  · exact allocCase h
  · exact allocCase h
  · exact allocCase h
  · exact aeff_sound hR hr h
  · exact aeff_sound hR hr h
  · exact aeff_sound hR hr h
  · split at h
    · exact aeff_sound hR hr h
    · exact aeff_sound hR hr h
    · exact aeff_sound hR hr h
    · exact aeff_sound hR hr h
    · split at h
      · rename_i v h1
        simp only [Option.some.injEq, Prod.mk.injEq] at h; obtain ⟨rfl, rfl⟩ := h
        exact .ofPure hR (apure_sound hr h1)
      · exact readCase h
    · exact pureCase h
    · simp at h
  · exact pureCase h

def undefA : AV := .tuple []
theorem undef_rel (E : Env) : VRel E undefA undef := .tuple .nil

def tput (T : Nat → AV) (d : Option Tmp) (v : AV) : Nat → AV := match d with
  | some d => fun t => if t = d then v else T t
  | none => T

/-- What is known of the package-level variables; where it is what one holds, it is all that it holds. -/
def GRel (E : Env) (G : Nat → Option AV) : Prop := ∀ g a, G g = some a → VRel E a (.pointer (some ⟨g, 0, none⟩)) ∧ ∀ cs, a = .vptr cs → ∃ c e f, E.K g = some (.cells c e f) ∧ VRels E cs c.toList

theorem GRel.mono {E E' : Env} {G : Nat → Option AV} (h : GRel E G) (x : Knows E E') : GRel E' G := fun g a ha => ⟨(h g a ha).1.mono x, fun cs e => by
  obtain ⟨c, e', f, h1, h2⟩ := (h g a ha).2 cs e
  exact ⟨c, e', f, x.K _ _ h1, h2.mono x⟩⟩
theorem GRel.cut {E : Env} {G : Nat → Option AV} {n : Nat} (h : GRel E G) (hG : ∀ g a, G g = some a → a.idLt n = true) : GRel (E.cut n) G := fun g a ha => ⟨(h g a ha).1.cut (hG g a ha), fun cs e => by
  obtain ⟨c, e', f, h1, h2⟩ := (h g a ha).2 cs e
  have h3 := hG g a ha
  subst e
  exact ⟨c, e', f, h1, h2.cut (by simpa [AV.idLt] using h3)⟩⟩

structure TRel (E : Env) (N : Nat) (T : Nat → AV) (tmps : Array Value) : Prop where
  size : tmps.size = N
  rel : ∀ t, VRel E (T t) (tmps.getD t undef)

theorem TRel.mono {E E' : Env} {N : Nat} {T : Nat → AV} {tmps : Array Value} (h : TRel E N T tmps) (x : Knows E E') : TRel E' N T tmps := ⟨h.size, fun t => (h.rel t).mono x⟩

theorem TRel.put {E : Env} {N : Nat} {T : Nat → AV} {a : Act} (h : TRel E N T a.tmps) (d : Option Tmp) {v : AV} {u : Value} (hv : VRel E v u) (hd : ∀ k, d = some k → k < N) : TRel E N (tput T d v) (a.put d u).tmps := by
  cases d with
  | none => exact h
  | some k =>
    have hk := hd k rfl
    refine ⟨by simp [Act.put, h.size], fun t => ?_⟩
    simp only [tput, Act.put]
    by_cases ht : t = k
    · subst ht
      rw [if_pos rfl]
      have e : (a.tmps.setIfInBounds t u).getD t undef = u := by
        have : t < a.tmps.size := by rw [h.size]; exact hk
        simp [this]
      rw [e]; exact hv
    · rw [if_neg ht]
      have e : (a.tmps.setIfInBounds k u).getD t undef = a.tmps.getD t undef := by
        simp [Array.getElem?_setIfInBounds_ne (fun e => ht e.symm)]
      rw [e]; exact h.rel t

theorem TRel.operands {E : Env} {N : Nat} {T : Nat → AV} {a : Act} {G : Nat → Option AV} (h : TRel E N T a.tmps) (hG : GRel E G) (xs : List Operand) : Operands E (aval G T) a.eval xs := by
  intro x _ b hb
  cases x with
  | tmp t => simp only [aval, Option.some.injEq] at hb; subst hb; exact h.rel t
  | const v => exact ofConst_rel E hb
  | global g => exact (hG g b hb).1
  | func f => simp only [aval, Option.some.injEq] at hb; subst hb; exact .func .nil .nil

/-- The model's state at hand is as the abstract one says. -/
structure St (E0 : Env) (N : Nat) (T : Nat → AV) (H : AHeap) (a : Act) (w : World) : Prop where
  ex : ∃ E, Ext E0 E ∧ Rel E H w ∧ TRel E N T a.tmps
  defers : a.defers = []

def lift (Q : Exit → (Nat → AV) → AHeap → Prop) (E0 : Env) (N : Nat) : Exit → Act → World → Prop := fun e a w => ∃ T H, Q e T H ∧ St E0 N T H a w

/-- Operations, one behind the other. -/
def AL (P : Program) (G : Nat → Option AV) (N : Nat) (ops : Array Oper) (l : List Oper) (Q : Exit → (Nat → AV) → AHeap → Prop) (T : Nat → AV) (H : AHeap) : Prop :=
  ∀ E0 a w, GRel E0 G → St E0 N T H a w → wpList P ops (lift Q E0 N) l a w

/-- A piece of code. -/
def AW (P : Program) (G : Nat → Option AV) (N : Nat) (c : Code) (Q : Exit → (Nat → AV) → AHeap → Prop) (T : Nat → AV) (H : AHeap) : Prop :=
  ∀ E0 a w, GRel E0 G → St E0 N T H a w → c.wp P (lift Q E0 N) a w

def Enters (P : Program) (f : FuncId) : Prop := ∀ args w, (callFunc f args).run P w = .ok (.enter f args) w

/-- A call as an operation: it enters the function and comes back, or the model runs it by itself. -/
def OpCalls (P : Program) (f : FuncId) (vs : Array Value) (w : World) (K : Value → World → Prop) : Prop :=
  ((callFunc f vs).run P w = .ok (.enter f vs) w ∧ Calls P f vs w fun e w' => ∃ v, e = .returned v ∧ K v w') ∨ ∃ v w', (callFunc f vs).run P w = .ok (.value v) w' ∧ K v w'

theorem OpCalls.mono {P : Program} {f : FuncId} {vs : Array Value} {w : World} {K K' : Value → World → Prop} (h : OpCalls P f vs w K) (hk : ∀ v w', K v w' → K' v w') : OpCalls P f vs w K' := by
  rcases h with ⟨h1, h2⟩ | ⟨v, w', h1, h2⟩
  · exact .inl ⟨h1, h2.mono fun e w' ⟨v, e1, e2⟩ => ⟨v, e1, hk v w' e2⟩⟩
  · exact .inr ⟨v, w', h1, hk v w' h2⟩

/-- What a call leaves, related. -/
def Ends (E : Env) (R : AV → AHeap → Prop) (v : Value) (w' : World) : Prop := ∃ r H' E', R r H' ∧ Ext E E' ∧ VRel E' r v ∧ Rel E' H' w'

theorem Ends.mono {E : Env} {R R' : AV → AHeap → Prop} (hr : ∀ r H', R r H' → R' r H') {v : Value} {w' : World} (h : Ends E R v w') : Ends E R' v w' := by
  obtain ⟨r, H', E', g, rest⟩ := h
  exact ⟨r, H', E', hr _ _ g, rest⟩

/-- A function, at these arguments and this heap. -/
structure Does (P : Program) (G : Nat → Option AV) (f : FuncId) (args : List AV) (H : AHeap) (R : AV → AHeap → Prop) : Prop where
  run : ∀ E w (vs : List Value), Rel E H w → GRel E G → VRels E args vs → OpCalls P f vs.toArray w (Ends E R)

theorem Does.mono {P : Program} {G : Nat → Option AV} {f : FuncId} {args : List AV} {H : AHeap} {R R' : AV → AHeap → Prop} (h : Does P G f args H R) (hr : ∀ r H', R r H' → R' r H') : Does P G f args H R' :=
  ⟨fun E w vs hR hG hv => (h.run E w vs hR hG hv).mono fun _ _ => Ends.mono hr⟩

section
variable {P : Program} {G : Nat → Option AV} {N : Nat} {ops : Array Oper} {Q : Exit → (Nat → AV) → AHeap → Prop} {T : Nat → AV} {H : AHeap}

theorem al_nil (h : Q .normal T H) : AL P G N ops [] Q T H := fun _ _ _ _ hs => ⟨T, H, h, hs⟩

def ayield (ops : Array Oper) (T : Nat → AV) (j : Nat) : Option Bool := match (ops[j]?).bind (·.dst) with
  | some d => match T d with
    | .bool b => some b
    | _ => none
  | none => none

theorem ayield_eq {E : Env} {tmps : Array Value} (h : TRel E N T tmps) (j : Nat) : yielded ops tmps j = ayield ops T j := by
  unfold yielded ayield
  cases hd : (ops[j]?).bind (·.dst) with
  | none => rfl
  | some d =>
    simp only [Option.bind_some]
    have hr := h.rel d
    cases ht : tmps[d]? with
    | none =>
      have e : tmps.getD d undef = undef := by simp [ht]
      rw [e] at hr
      generalize T d = x at hr
      unfold undef at hr
      cases hr
      rfl
    | some v =>
      have e : tmps.getD d undef = v := by simp [ht]
      rw [e] at hr
      generalize T d = x at hr
      cases hr <;> rfl

def awanted (ops : Array Oper) (T : Nat → AV) (o : Oper) : Bool := match o.guard with
  | none => true
  | some (j, want) => ayield ops T j == some want

theorem awanted_eq {E : Env} {tmps : Array Value} (h : TRel E N T tmps) (o : Oper) : Region.wanted o (yielded ops tmps) = awanted ops T o := by
  unfold Region.wanted awanted
  cases o.guard with
  | none => rfl
  | some p => simp only [ayield_eq h]

/-- An operation that is not wanted (its guard says no). -/
theorem al_skip {o : Oper} {rest : List Oper} (hw : awanted ops T o = false) (hd : ∀ k, o.dst = some k → k < N) (h : AL P G N ops rest Q (tput T o.dst undefA) H) : AL P G N ops (o :: rest) Q T H := by
  intro E0 a w hG hs
  obtain ⟨⟨E, hx, hR, hT⟩, hdf⟩ := hs
  unfold wpList
  rw [awanted_eq hT, hw]
  refine h E0 _ w hG ⟨⟨E, hx, hR, hT.put o.dst (undef_rel E) hd⟩, ?_⟩
  cases o.dst <;> exact hdf

theorem wp_of_run {o : Oper} {a : Act} {w w' : World} {v : Value} {K : Act → World → Prop} {Q' : Exit → Act → World → Prop} (h : (execOp a.eval o).run P w = .ok (.value v) w' ∨ ((execOp a.eval o).run P w = .ok .skip w' ∧ v = undef)) (hk : K (a.put o.dst v) w') : o.wp P a w K Q' := by
  unfold Oper.wp
  rcases h with h | ⟨h, rfl⟩
  · rw [h]; exact hk
  · rw [h]; exact hk

/-- An operation other than a call of a function. -/
theorem al_op {o : Oper} {rest : List Oper} {v : AV} {eff : AEff} (hw : awanted ops T o = true) (hd : ∀ k, o.dst = some k → k < N) (ho : aop P (aval G T) H.get H.next o = some (v, eff))
    (h : AL P G N ops rest Q (tput T o.dst v) (H.eff eff)) : AL P G N ops (o :: rest) Q T H := by
  intro E0 a w hG hs
  obtain ⟨⟨E, hx, hR, hT⟩, hdf⟩ := hs
  unfold wpList
  rw [awanted_eq hT, hw, if_pos rfl]
  obtain ⟨E', u, w', g1, g2, g3, g4⟩ := aop_sound hR (hT.operands (hG.mono hx.knows) o.op.operands.toList) ho
  refine .inl (wp_of_run g4 (h E0 _ w' hG ⟨⟨E', hx.trans g1, g3, (hT.mono g1.knows).put o.dst g2 hd⟩, ?_⟩))
  cases o.dst <;> exact hdf

/-- Which function a call calls, at which arguments. -/
def acallee (ρ : Operand → Option AV) (o : Oper) : Option (FuncId × List AV) := match o.op with
  | .call c => match c.callee with
    | .value f => match ρ f, avals ρ c.args.toList with
      | some (.func (.func k) first captured), some args => some (k, first ++ args ++ captured)
      | _, _ => none
    | _ => none
  | _ => none

/-- A call of a function. -/
theorem al_call {o : Oper} {rest : List Oper} {f : FuncId} {args : List AV} (hw : awanted ops T o = true) (hd : ∀ k, o.dst = some k → k < N) (hc : acallee (aval G T) o = some (f, args))
    (h : Does P G f args H fun r H' => AL P G N ops rest Q (tput T o.dst r) H') : AL P G N ops (o :: rest) Q T H := by
  intro E0 a w hG hs
  obtain ⟨⟨E, hx, hR, hT⟩, hdf⟩ := hs
  unfold wpList
  rw [awanted_eq hT, hw, if_pos rfl]
  refine .inl ?_
  obtain ⟨dst, op, ty, pos, after, guard⟩ := o
  unfold acallee at hc
  cases op <;> simp only at hc <;> try (simp at hc; done)
  rename_i c
  obtain ⟨callee, cargs, argTypes⟩ := c
  cases callee <;> simp only at hc <;> try (simp at hc; done)
  rename_i fo
  split at hc <;> try (simp at hc; done)
  rename_i k first captured as_ hf has
  simp only [Option.some.injEq, Prod.mk.injEq] at hc
  obtain ⟨rfl, rfl⟩ := hc
  have hops := hT.operands (hG.mono hx.knows) (fo :: cargs.toList)
  have hfv := hops fo (by simp) _ hf
  have hargs := avals_sound (E := E) (σ := a.eval) (fun x hx => hops x (by simp [hx])) has
  generalize hfe : a.eval fo = fv at hfv
  cases hfv with | func hf1 hc1 =>
  rename_i f2 c2
  have hrun : (execOp a.eval { dst, op := .call { callee := .value fo, args := cargs, argTypes }, type := ty, pos, after, guard }).run P w = (callFunc k (f2 ++ cargs.map a.eval ++ c2)).run P w := by
    simp [execOp, resolve, hfe, Deferred.ofValue, invoke]
  have hall : VRels E (first ++ as_ ++ captured) (f2 ++ cargs.map a.eval ++ c2).toList := by
    simp only [Array.toList_append, Array.toList_map]
    exact (hf1.append hargs).append hc1
  have hcl := h.run E w _ hR (hG.mono hx.knows) hall
  simp only [Array.toArray_toList] at hcl
  unfold Oper.wp
  rw [hrun]
  have fin : ∀ v w', Ends E (fun r H' => AL P G N ops rest Q (tput T dst r) H') v w' → wpList P ops (lift Q E0 N) rest (a.put dst v) w' := by
    rintro v w' ⟨r, H', E', g1, g2, g3, g4⟩
    refine g1 E0 _ w' hG ⟨⟨E', hx.trans g2, g4, (hT.mono g2.knows).put dst g3 hd⟩, ?_⟩
    cases dst <;> exact hdf
  rcases hcl with ⟨h1, h2⟩ | ⟨v, w', h1, h2⟩
  · rw [h1]
    refine h2.mono ?_
    rintro e w' ⟨v, rfl, hk⟩
    exact fin v w' hk
  · rw [h1]
    exact fin v w' h2

/-! ### code -/

theorem aw_region {id : Nat} (h : AL P G N ops ops.toList Q T H) : AW P G N (.region id ops false) Q T H :=
  fun E0 a w hG hs => wp_region_list (h E0 a w hG hs)

theorem aw_skip (h : Q .normal T H) : AW P G N .skip Q T H := fun _ _ _ _ hs => wp_skip ⟨T, H, h, hs⟩
theorem aw_ret (h : Q .ret T H) : AW P G N .ret Q T H := fun _ _ _ _ hs => wp_ret ⟨T, H, h, hs⟩
theorem aw_exit {id : Nat} (h : Q (.exit id) T H) : AW P G N (.exit id) Q T H := fun _ _ _ _ hs => wp_exit ⟨T, H, h, hs⟩

theorem AW.mono {c : Code} {Q' : Exit → (Nat → AV) → AHeap → Prop} (h : AW P G N c Q T H) (hq : ∀ e T H, Q e T H → Q' e T H) : AW P G N c Q' T H :=
  fun E0 a w hG hs => wp_mono (h E0 a w hG hs) fun _ _ _ ⟨T', H', q, s⟩ => ⟨T', H', hq _ _ _ q, s⟩

def QThen (K : (Nat → AV) → AHeap → Prop) (Q : Exit → (Nat → AV) → AHeap → Prop) : Exit → (Nat → AV) → AHeap → Prop
  | .normal, T, H => K T H
  | e, T, H => Q e T H

theorem aw_seq {x y : Code} (h : AW P G N x (QThen (fun T H => AW P G N y Q T H) Q) T H) : AW P G N (.seq x y) Q T H := by
  intro E0 a w hG hs
  refine wp_seq (wp_mono (h E0 a w hG hs) ?_)
  rintro e a' w' ⟨T', H', q, s⟩
  cases e with
  | normal => exact q E0 a' w' hG s
  | exit id => exact ⟨T', H', q, s⟩
  | goto l => exact ⟨T', H', q, s⟩
  | ret => exact ⟨T', H', q, s⟩
  | panic c => exact ⟨T', H', q, s⟩
  | outgrown => exact ⟨T', H', q, s⟩

theorem aw_cond {c : Operand} {x y : Code} {b : Bool} (hc : aval G T c = some (.bool b)) (h : AW P G N (if b then x else y) Q T H) : AW P G N (.cond c x y) Q T H := by
  intro E0 a w hG hs
  obtain ⟨⟨E, hx, hR, hT⟩, hdf⟩ := hs
  have := hT.operands (hG.mono hx.knows) [c] c (by simp) _ hc
  have e : a.eval c = .bool b := by generalize a.eval c = v at this; cases this; rfl
  exact wp_cond e (h E0 a w hG ⟨⟨E, hx, hR, hT⟩, hdf⟩)

def QBlock (id : Nat) (Q : Exit → (Nat → AV) → AHeap → Prop) : Exit → (Nat → AV) → AHeap → Prop
  | .exit id', T, H => if id' = id then Q .normal T H else Q (.exit id') T H
  | e, T, H => Q e T H

theorem aw_block {id : Nat} {c : Code} (h : AW P G N c (QBlock id Q) T H) : AW P G N (.block id c) Q T H := by
  intro E0 a w hG hs
  refine wp_block (wp_mono (h E0 a w hG hs) ?_)
  rintro e a' w' ⟨T', H', q, s⟩
  cases e with
  | exit id' =>
    simp only [QBlock] at q
    simp only [Exit.inBlock]
    split at q
    · rename_i hid; rw [if_pos hid]; exact ⟨T', H', q, s⟩
    · rename_i hid; rw [if_neg hid]; exact ⟨T', H', q, s⟩
  | normal => exact ⟨T', H', q, s⟩
  | goto l => exact ⟨T', H', q, s⟩
  | ret => exact ⟨T', H', q, s⟩
  | panic c => exact ⟨T', H', q, s⟩
  | outgrown => exact ⟨T', H', q, s⟩

/-- A loop: what holds at each round's head, and a measure. -/
theorem aw_loop {c : Code} (I : Nat → (Nat → AV) → AHeap → Prop) (n : Nat) (h0 : I n T H)
    (round : ∀ n T H, I n T H → AW P G N c (QThen (fun T' H' => ∃ m, m < n ∧ I m T' H') Q) T H) : AW P G N (.loop c) Q T H := by
  intro E0 a w hG hs b k cs
  have key : ∀ n T H a w, I n T H → St E0 N T H a w → ∃ e a' w', lift Q E0 N e a' w' ∧ Arrives P (lone (b.at a (.code c :: .inLoop c :: k)) cs w) b k cs e a' w' := by
    intro n
    induction n using Nat.strongRecOn with
    | _ n ih =>
      intro T H a w hI hs
      obtain ⟨e, a1, w1, ⟨T1, H1, q, s⟩, harr⟩ := round n T H hI E0 a w hG hs b (.inLoop c :: k) cs
      cases e with
      | normal =>
        obtain ⟨m, hm, hI'⟩ := q
        obtain ⟨e2, a2, w2, q2, harr2⟩ := ih m hm T1 H1 a1 w1 hI' s
        exact ⟨e2, a2, w2, q2, .of_steps (Steps.trans harr (.one step_inLoop)) harr2⟩
      | exit id => exact ⟨_, a1, w1, ⟨T1, H1, q, s⟩, .pass (x := .inLoop c) rfl (fun _ _ => .inl (by simp)) harr⟩
      | goto l => exact ⟨_, a1, w1, ⟨T1, H1, q, s⟩, .pass (x := .inLoop c) rfl (fun _ _ => .inl (by simp)) harr⟩
      | ret => exact ⟨_, a1, w1, ⟨T1, H1, q, s⟩, .pass (x := .inLoop c) rfl (fun _ _ => .inl (by simp)) harr⟩
      | panic ch => exact ⟨_, a1, w1, ⟨T1, H1, q, s⟩, .pass (x := .inLoop c) rfl (fun _ _ => .inl (by simp)) harr⟩
      | outgrown => exact ⟨_, a1, w1, ⟨T1, H1, q, s⟩, .pass (x := .inLoop c) rfl (fun _ _ => .inl (by simp)) harr⟩
  obtain ⟨e, a', w', hq, harr⟩ := key n T H a w h0 hs
  exact ⟨e, a', w', hq, .of_steps (.one step_loop) harr⟩

/-! ### functions -/

def aresult (P : Program) (T : Nat → AV) (get : Nat → Option AObj) : ResultVar → Option AV
  | .tmp t => some (T t)
  | .cell a t => match aat get (T a) with
    | some cs => acut P t cs
    | none => none

def aresults (P : Program) (T : Nat → AV) (get : Nat → Option AObj) : List ResultVar → Option (List AV)
  | [] => some []
  | r :: rs => match aresult P T get r, aresults P T get rs with
    | some a, some as_ => some (a :: as_)
    | _, _ => none

def ares (P : Program) (T : Nat → AV) (get : Nat → Option AObj) (rs : List ResultVar) : Option AV :=
  match aresults P T get rs with
  | some [a] => some a
  | some as_ => some (.tuple as_)
  | none => none

def resOne (tmps : Array Value) : ResultVar → Sem Value
  | .tmp t => pure (tmps.getD t undef)
  | .cell a t => do loadVar t (← asAddr (tmps.getD a undef))

theorem results_eq (fn : Func) (tmps : Array Value) : results fn tmps = (fn.results.mapM (resOne tmps) >>= fun vs => pure (if h : vs.size = 1 then vs[0] else .tuple vs)) := by
  unfold results
  refine congrArg (fun g => (fn.results.mapM g >>= fun vs => pure (if h : vs.size = 1 then vs[0] else .tuple vs) : Sem Value)) ?_
  funext x
  cases x <;> rfl

theorem aresults_sound {E : Env} {w : World} {tmps : Array Value} (hR : Rel E H w) (hT : TRel E N T tmps) : ∀ (rs : List ResultVar) (as_ : List AV), aresults P T H.get rs = some as_ →
    ∃ vs, VRels E as_ vs ∧ (rs.mapM (resOne tmps)).run P w = .ok vs w
  | [], as_, h => by simp [aresults] at h; subst h; exact ⟨[], .nil, rfl⟩
  | r :: rs, as_, h => by
    simp only [aresults] at h
    split at h <;> try (simp at h; done)
    rename_i a as' h1 h2
    simp only [Option.some.injEq] at h; subst h
    obtain ⟨vs, g1, g2⟩ := aresults_sound hR hT rs as' h2
    cases r with
    | tmp t =>
      simp only [aresult, Option.some.injEq] at h1; subst h1
      refine ⟨tmps.getD t undef :: vs, .cons (hT.rel t) g1, ?_⟩
      simp only [List.mapM_cons, resOne, Sem.run_bind, Sem.run_pure, Result.andThen_ok]
      rw [g2]; rfl
    | cell p t =>
      simp only [aresult] at h1
      split at h1 <;> try (simp at h1; done)
      rename_i cs hcs
      obtain ⟨v, k1, k2⟩ := aat_load (P := P) hR hcs h1 (hT.rel p)
      refine ⟨v :: vs, .cons k1 g1, ?_⟩
      have hload : (resOne tmps (.cell p t)).run P w = .ok v w := by
        have hp := hT.rel p
        simp only [resOne]
        generalize tmps.getD p undef = u at hp k2 ⊢
        generalize T p = x at hcs hp
        unfold aat at hcs
        split at hcs
        · cases hp
          simp only [Sem.run_bind, asAddr, Sem.run_pure, Result.andThen_ok]
          simpa [Instr.loadAt, Instr.sureAddr] using k2
        · cases hp
          simp only [Sem.run_bind, asAddr, Sem.run_pure, Result.andThen_ok]
          simpa [Instr.loadAt, Instr.sureAddr] using k2
        · simp at hcs
      simp only [List.mapM_cons]
      rw [Sem.run_bind, hload, Result.andThen_ok, Sem.run_bind, g2]
      rfl

theorem ares_sound {E : Env} {w : World} {tmps : Array Value} {fn : Func} {r : AV} (hR : Rel E H w) (hT : TRel E N T tmps) (h : ares P T H.get fn.results.toList = some r) : ∃ v, VRel E r v ∧ (results fn tmps).run P w = .ok v w := by
  unfold ares at h
  have key : ∀ as_, aresults P T H.get fn.results.toList = some as_ → ∃ vs, VRels E as_ vs ∧ (results fn tmps).run P w = .ok (if h : vs.toArray.size = 1 then vs.toArray[0] else .tuple vs.toArray) w := fun as_ has => by
    obtain ⟨vs, g1, g2⟩ := aresults_sound (P := P) hR hT fn.results.toList as_ has
    refine ⟨vs, g1, ?_⟩
    rw [results_eq, Sem.run_bind, Array.mapM_eq_mapM_toList, Sem.run_map, g2]
    rfl
  split at h
  · rename_i a has
    simp only [Option.some.injEq] at h; subst h
    obtain ⟨vs, g1, g2⟩ := key _ has
    cases g1 with | cons g1 g3 =>
    cases g3
    exact ⟨_, g1, g2⟩
  · rename_i as_ hne has
    simp only [Option.some.injEq] at h; subst h
    obtain ⟨vs, g1, g2⟩ := key _ has
    have hl := g1.length
    have hv : ¬ (vs.toArray.size = 1) := fun e => by
      simp at e
      rw [e] at hl
      match as_, hl with
      | [a], _ => exact hne a rfl
    rw [dif_neg hv] at g2
    exact ⟨_, .tuple g1, g2⟩
  · simp at h

theorem does_of {f : FuncId} {fn : Func} {c : Code} {args : List AV} {R : AV → AHeap → Prop} (he : Enters P f) (hf : P.funcs[f]? = some fn) (hb : fn.body = some c) (hn : args.length ≤ fn.ntmps)
    (h : AW P G fn.ntmps c (fun e T' H' => (e = .normal ∨ e = .ret) ∧ ∃ r, ares P T' H'.get fn.results.toList = some r ∧ R r H') (fun t => args.getD t undefA) H) : Does P G f args H R := by
  refine ⟨fun E w vs hR hG hv => .inl ⟨he _ _, ?_⟩⟩
  have hvl := hv.length
  have hT : TRel E fn.ntmps (fun t => args.getD t undefA) (vs.toArray ++ Array.replicate (fn.ntmps - vs.toArray.size) undef) := by
    refine ⟨by simp; omega, fun t => ?_⟩
    have e : (vs.toArray ++ Array.replicate (fn.ntmps - vs.toArray.size) undef).getD t undef = vs.getD t undef := by
      simp only [Array.getD_eq_getD_getElem?, List.getD, Array.getElem?_append]
      by_cases ht : t < vs.length
      · simp [ht]
      · simp [ht, Array.getElem?_replicate]
        split <;> rfl
    rw [e]
    exact hv.getD t (undef_rel E)
  refine calls_of_wp hf hb (wp_mono (h E _ w hG ⟨⟨E, Ext.refl E, hR, hT⟩, rfl⟩) ?_)
  rintro e a' w' ⟨T', H', ⟨he', r, hr, hRr⟩, ⟨E', hx, hR', hT'⟩, hdf⟩
  obtain ⟨v, g1, g2⟩ := ares_sound hR' hT' hr
  rcases he' with rfl | rfl
  · exact ⟨hdf, v, g2, v, rfl, r, H', E', hRr, hx, g1, hR'⟩
  · exact ⟨hdf, v, g2, v, rfl, r, H', E', hRr, hx, g1, hR'⟩

end
end Go.Abs

/-
  A simplified meaning for Go code, fourteenth part: a region that draws its order (first half: the frame).
-/

namespace Go.Abs
open Go

mutual
theorem VRel.idLt {E : Env} {n : Nat} (hd : ∀ i p, E.φ i = some p → i < n) : ∀ {a : AV} {v : Value}, VRel E a v → a.idLt n = true
  | _, _, .bool b => rfl
  | _, _, .int k n => rfl
  | _, _, .str s => rfl
  | _, _, .nilptr => rfl
  | _, _, .ptr h => by simp [AV.idLt, hd _ _ h]
  | _, _, .vptr hK hv => by simp [AV.idLt, VRels.idLt hd hv]
  | _, _, .nilsl => rfl
  | _, _, .sl h hl hc ho hn => by simp [AV.idLt, hd _ _ h]
  | _, _, .vsl hK hv hl => by simp [AV.idLt, VRels.idLt hd hv]
  | _, _, .vsl0 => by simp [AV.idLt, AV.allLt]
  | _, _, .nilmap => rfl
  | _, _, .map h => by simp [AV.idLt, hd _ _ h]
  | _, _, .func hf hc => by simp [AV.idLt, VRels.idLt hd hf, VRels.idLt hd hc]
  | _, _, .nilfunc => rfl
  | _, _, .iface h => by simp [AV.idLt, VRel.idLt hd h]
  | _, _, .niliface => rfl
  | _, _, .agg h => by simp [AV.idLt, VRels.idLt hd h]
  | _, _, .tuple h => by simp [AV.idLt, VRels.idLt hd h]
  | _, _, .csl hK hv => by simp [AV.idLt, VRels.idLt hd hv]
theorem VRels.idLt {E : Env} {n : Nat} (hd : ∀ i p, E.φ i = some p → i < n) : ∀ {as_ : List AV} {vs : List Value}, VRels E as_ vs → AV.allLt n as_ = true
  | _, _, .nil => rfl
  | _, _, .cons h t => by simp [AV.allLt, VRel.idLt hd h, VRels.idLt hd t]
end

theorem Rel.contents {E : Env} {H : AHeap} {w : World} (h : Rel E H w) {i : Nat} {x : AObj} (hi : H.get i = some x) : AV.allLt H.next x.cellsList = true := by
  obtain ⟨p, ob, _, _, _, _, g5⟩ := h.live i x hi
  cases x with
  | cells cs =>
    obtain ⟨c, e, fz, vs, _, _, k3, _⟩ := g5
    exact VRels.idLt h.dom k3
  | row t cs =>
    obtain ⟨⟨c, e, fz, vs, _, _, k3, _⟩, _⟩ := g5
    exact VRels.idLt h.dom k3
  | map es =>
    obtain ⟨ents, clk, _, k2, k3⟩ := g5
    rw [AObj.cellsList, AV.allLt_append, VRels.idLt h.dom k2, VRels.idLt h.dom k3]; rfl

/-- The blocks of X laid over H. -/
def AHeap.over (H X : AHeap) : AHeap := { next := X.next, get := fun i => match X.get i with | some x => some x | none => H.get i }

/-- The frame: what E knows of X's blocks put aside. -/
noncomputable def Env.aside (E : Env) (X : AHeap) (w : World) (n : Nat) : Env :=
  { E with φ := fun i => if i < n then E.φ i else none
           F := fun B => match E.F B with
             | some o => some o
             | none => open Classical in if ∃ i x p, X.get i = some x ∧ E.φ i = some p ∧ p.b = B then w.heap[B]? else none }

theorem AHeap.over_left {H X : AHeap} (hX : ∀ i x, X.get i = some x → H.next ≤ i) {i : Nat} {x : AObj} (hlt : i < H.next) (hi : H.get i = some x) : (H.over X).get i = some x := by
  simp only [AHeap.over]
  cases hx : X.get i with
  | none => exact hi
  | some y => have := hX i y hx; omega

theorem AHeap.over_right {H X : AHeap} {i : Nat} {x : AObj} (hi : X.get i = some x) : (H.over X).get i = some x := by simp only [AHeap.over, hi]

theorem Rel.aside {E : Env} {H X : AHeap} {w : World} (h : Rel E (H.over X) w) (hX : ∀ i x, X.get i = some x → H.next ≤ i) (hH : ∀ i x, H.get i = some x → i < H.next)
    (hc : ∀ i x, H.get i = some x → AV.allLt H.next x.cellsList = true) : Rel (E.aside X w H.next) H w := by
  have hov : ∀ i x, H.get i = some x → (H.over X).get i = some x := fun i x hi => AHeap.over_left hX (hH i x hi) hi
  refine ⟨h.os, h.out, h.K, ?_, ?_, ?_, ?_, ?_⟩
  · intro B o hB
    simp only [Env.aside] at hB
    split at hB
    · rename_i o' ho; simp only [Option.some.injEq] at hB; subst hB; exact h.F B _ ho
    · split at hB
      · exact hB
      · simp at hB
  · intro B
    simp only [Env.aside]
    rcases h.KF B with hk | hf
    · exact .inl hk
    · rw [hf]
      simp only
      split
      · rename_i hex
        obtain ⟨i, x, p, h1, h2, h3⟩ := hex
        obtain ⟨q, ob, g1, g2, _⟩ := h.live i x (AHeap.over_right h1)
        rw [h2] at g1; cases g1
        rw [← h3]; exact .inl g2
      · exact .inr rfl
  · intro i p hp
    simp only [Env.aside] at hp
    split at hp
    · assumption
    · simp at hp
  · intro i x hi
    obtain ⟨p, ob, g1, g2, g3, g4, g5⟩ := h.live i x (hov i x hi)
    have hlt := hH i x hi
    refine ⟨p, ob, by simp [Env.aside, hlt, g1], g2, ?_, g4, ?_⟩
    · simp only [Env.aside, g3]
      rw [if_neg]
      rintro ⟨j, y, q, h1, h2, h3⟩
      have := h.inj i j x y p q (hov i x hi) (AHeap.over_right h1) g1 h2 h3.symm
      subst this
      have := hX _ _ h1
      omega
    · have hcx := hc i x hi
      cases x with
      | cells cs =>
        obtain ⟨c, e, fz, vs, k1, k2, k3, k4, k5⟩ := g5
        refine ⟨c, e, fz, vs, k1, k2, ?_, k4, k5⟩
        exact VRels.mono (E := E.cut H.next) (E' := E.aside X w H.next) ⟨fun _ _ h => h, fun _ _ h => h⟩ (k3.cut hcx)
      | row t cs =>
        obtain ⟨⟨c, e, fz, vs, k1, k2, k3, k4, k5⟩, k6⟩ := g5
        refine ⟨⟨c, e, fz, vs, k1, k2, ?_, k4, k5⟩, k6⟩
        exact VRels.mono (E := E.cut H.next) (E' := E.aside X w H.next) ⟨fun _ _ h => h, fun _ _ h => h⟩ (k3.cut hcx)
      | map es =>
        obtain ⟨ents, clk, k1, k2, k3⟩ := g5
        rw [AObj.cellsList, AV.allLt_append, Bool.and_eq_true] at hcx
        exact ⟨ents, clk, k1, VRels.mono (E := E.cut H.next) (E' := E.aside X w H.next) ⟨fun _ _ h => h, fun _ _ h => h⟩ (k2.cut hcx.1), VRels.mono (E := E.cut H.next) (E' := E.aside X w H.next) ⟨fun _ _ h => h, fun _ _ h => h⟩ (k3.cut hcx.2)⟩
  · intro i j x y p q hi hj hp hq
    simp only [Env.aside] at hp hq
    rw [if_pos (hH i x hi)] at hp
    rw [if_pos (hH j y hj)] at hq
    exact h.inj i j x y p q (hov i x hi) (hov j y hj) hp hq

/-- Behind a step with X put aside: X taken back. -/
theorem Rel.back {E E' : Env} {H H' X : AHeap} {w w' : World} (h : Rel E (H.over X) w) (hn' : H'.next ≤ X.next)
    (hdom : ∀ i p, E.φ i = some p → i < H.next ∨ H'.next ≤ i) (hx : Ext (E.aside X w H.next) E') (h' : Rel E' H' w') :
    ∃ E'', Ext E E'' ∧ Knows E' E'' ∧ Rel E'' (H'.over X) w' ∧ ∀ i p, E''.φ i = some p → i < H'.next ∨ E.φ i = some p := by
  have hF : ∀ B o, E.F B = some o → E'.F B = some o := fun B o hB => by rw [hx.F]; simp only [Env.aside, hB]
  have hFX : ∀ i x p, X.get i = some x → E.φ i = some p → ∃ ob, w.heap[p.b]? = some ob ∧ E'.F p.b = some ob := fun i x p hi hp => by
    obtain ⟨q, ob, g1, g2, g3, g4, g5⟩ := h.live i x (AHeap.over_right hi)
    rw [hp] at g1; cases g1
    refine ⟨ob, g4, ?_⟩
    rw [hx.F]
    simp only [Env.aside, g3]
    rw [if_pos ⟨i, x, p, hi, hp, rfl⟩]
    exact g4
  have hlow : ∀ i p, E.φ i = some p → i < H.next → E'.φ i = some p := fun i p hp hi => hx.φ i p (by simp [Env.aside, hi, hp])
  let E'' : Env := { E' with φ := fun i => match E.φ i with | some p => some p | none => E'.φ i, F := E.F }
  have k1 : Ext E E'' := ⟨fun i p hp => by simp only [E'', hp], fun B o hB => hx.K B o hB, rfl, hx.os, hx.out⟩
  have k2 : Knows E' E'' := by
    refine ⟨fun i q hq => ?_, fun _ _ h => h⟩
    simp only [E'']
    cases hp : E.φ i with
    | none => exact hq
    | some p =>
      have hlt := h'.dom i q hq
      rcases hdom i p hp with hi | hi
      · have := hlow i p hp hi
        rw [hq] at this; cases this; rfl
      · omega
  refine ⟨E'', k1, k2, ?_, ?_⟩
  · refine ⟨h'.os, h'.out, h'.K, fun B o hB => h'.F B o (hF B o hB), ?_, ?_, ?_, ?_⟩
    · intro B
      rcases h'.KF B with hk | hf
      · exact .inl hk
      · right
        show E.F B = none
        cases hb : E.F B with
        | none => rfl
        | some o => rw [hF B o hb] at hf; simp at hf
    · intro i p hp
      simp only [E''] at hp
      split at hp
      · rename_i q hq
        exact h.dom i q hq
      · have := h'.dom i p hp
        show i < X.next
        omega
    · intro i x hi
      simp only [AHeap.over] at hi
      split at hi
      · rename_i y hy
        simp only [Option.some.injEq] at hi; subst hi
        obtain ⟨p, ob, g1, g2, g3, g4, g5⟩ := h.live i y (AHeap.over_right hy)
        obtain ⟨ob', q1, q2⟩ := hFX i y p hy g1
        rw [g4] at q1; cases q1
        refine ⟨p, ob, k1.φ _ _ g1, ?_, g3, h'.F _ _ q2, g5.mono k1.knows⟩
        rcases h'.KF p.b with hk | hf
        · exact hk
        · rw [q2] at hf; simp at hf
      · obtain ⟨p, ob, g1, g2, g3, g4, g5⟩ := h'.live i x hi
        refine ⟨p, ob, k2.φ _ _ g1, g2, ?_, g4, g5.mono k2⟩
        show E.F p.b = none
        cases hb : E.F p.b with
        | none => rfl
        | some o => rw [hF _ o hb] at g3; simp at g3
    · intro i j x y p q hi hj hp hq hpq
      have side : ∀ i x p, (H'.over X).get i = some x → E''.φ i = some p → (X.get i = some x ∧ E.φ i = some p ∧ ∃ ob, E'.F p.b = some ob) ∨ (X.get i = none ∧ H'.get i = some x ∧ E'.φ i = some p ∧ E'.F p.b = none) := by
        intro i x p hi hp
        simp only [AHeap.over] at hi
        split at hi
        · rename_i y hy
          simp only [Option.some.injEq] at hi; subst hi
          obtain ⟨p', ob, g1, g2, g3, g4, g5⟩ := h.live i y (AHeap.over_right hy)
          have := k1.φ _ _ g1
          rw [hp] at this; cases this
          obtain ⟨ob', q1, q2⟩ := hFX i y p hy g1
          exact .inl ⟨hy, g1, ob', q2⟩
        · rename_i hxn
          obtain ⟨p', ob, g1, g2, g3, g4, g5⟩ := h'.live i x hi
          have := k2.φ _ _ g1
          rw [hp] at this; cases this
          exact .inr ⟨hxn, hi, g1, g3⟩
      rcases side i x p hi hp with ⟨a1, a2, ob, a3⟩ | ⟨a0, a1, a2, a3⟩ <;> rcases side j y q hj hq with ⟨b1, b2, ob', b3⟩ | ⟨b0, b1, b2, b3⟩
      · exact h.inj i j x y p q (AHeap.over_right a1) (AHeap.over_right b1) a2 b2 hpq
      · rw [hpq, b3] at a3; simp at a3
      · rw [← hpq, a3] at b3; simp at b3
      · exact h'.inj i j x y p q a1 b1 a2 b2 hpq
  · intro i p hp
    simp only [E''] at hp
    split at hp
    · rename_i q hq
      cases hp
      exact .inr hq
    · exact .inl (h'.dom i p hp)

end Go.Abs

/-
  A simplified meaning for Go code, fifteenth part: a region that draws its order (second half).
-/

namespace Go.Abs
open Go

/-- What a block's address is once the block is known not to change. -/
def frzOf (cs : List AV) : AV → Option AV
  | .ptr 0 0 => some (.vptr cs)
  | .sl 0 0 _ len _ _ => some (.vsl cs len)
  | _ => none
/-- A block that is laid, and never changed. -/
def afrz (P : Program) (ρ : Operand → Option AV) (o : Oper) : Option AV := match aalloc P ρ o with
  | some (.cells cs, f) => frzOf cs (f 0)
  | _ => none
def Frz (P : Program) (E : Env) (σ : Operand → Value) (o : Oper) (v : AV) : Prop :=
  ∀ w : World, ∃ ob u w', (execOp σ o).run P w = .ok (.value u) w' ∧ w'.heap = w.heap.push ob ∧ w'.os = w.os ∧ w'.output = w.output ∧ ∀ E', Knows E E' → E'.K w.heap.size = some ob → VRel E' v u
theorem afrz_sound {P : Program} {E : Env} {ρ : Operand → Option AV} {σ : Operand → Value} {o : Oper} {v : AV} (hr : Operands E ρ σ o.op.operands.toList) (h : afrz P ρ o = some v) : Frz P E σ o v := by
  unfold afrz at h
  split at h <;> try (simp at h; done)
  rename_i cs f hal
  intro w
  obtain ⟨ob, u, w', q1, q2, q3, q4, q5, q6⟩ := aalloc_sound hr hal w
  refine ⟨ob, u, w', q1, q2, q3, q4, fun E' kn hK => ?_⟩
  obtain ⟨c, e, fz, vs, rfl, g1, g2, g3, g4, g5⟩ := q5
  have hx := q6 { E' with φ := fun _ => some ⟨w.heap.size, 0, obN (.cells c e fz), obE (.cells c e fz)⟩ } 0 rfl
  have hI : InK E' w.heap.size 0 vs := .inr ⟨c, e, fz, hK, g3⟩
  unfold frzOf at h
  split at h <;> try (simp at h; done)
  · rename_i hf
    simp only [Option.some.injEq] at h
    subst h
    rw [hf] at hx
    cases hx with | ptr hp =>
    cases hp
    exact .vptr hI (g2.mono kn)
  · rename_i hf
    simp only [Option.some.injEq] at h
    subst h
    rw [hf] at hx
    cases hx with | sl hp hl hc ho hn =>
    cases hp
    exact .vsl hI (g2.mono kn) (Nat.le_trans hl hc)
/-- A block that is laid beside what there is, and frozen. -/
theorem Rel.pushK {E : Env} {H : AHeap} {w w' : World} (h : Rel E H w) {ob : Obj} (hw : w'.heap = w.heap.push ob) (ho : w'.os = w.os) (hu : w'.output = w.output) :
    ∃ E', Ext E E' ∧ E'.φ = E.φ ∧ E'.K w.heap.size = some ob ∧ Rel E' H w' := by
  have hsz : ∀ B o, w.heap[B]? = some o → B < w.heap.size := fun B o hb => by
    rcases Nat.lt_or_ge B w.heap.size with q | q
    · exact q
    · rw [Array.getElem?_eq_none q] at hb; simp at hb
  have hold : ∀ B o, w.heap[B]? = some o → w'.heap[B]? = some o := fun B o hb => by
    have hlt := hsz B o hb
    rw [hw, Array.getElem?_push, if_neg (by omega)]; exact hb
  have hnew : w'.heap[w.heap.size]? = some ob := by rw [hw]; simp
  have hK0 : E.K w.heap.size = none := by
    cases hk : E.K w.heap.size with
    | none => rfl
    | some o => exact absurd (hsz _ _ (h.K _ _ hk)) (Nat.lt_irrefl _)
  have hF0 : E.F w.heap.size = none := by
    cases hk : E.F w.heap.size with
    | none => rfl
    | some o => exact absurd (hsz _ _ (h.F _ _ hk)) (Nat.lt_irrefl _)
  let E' : Env := { E with K := fun B => if B = w.heap.size then some ob else E.K B }
  have hx : Ext E E' := ⟨fun _ _ h => h, fun B o hB => by
    show (if B = w.heap.size then some ob else E.K B) = some o
    rw [if_neg (fun e => by rw [e, hK0] at hB; simp at hB)]; exact hB, rfl, rfl, rfl⟩
  refine ⟨E', hx, rfl, if_pos rfl, ?_⟩
  refine ⟨ho.trans h.os, hu.trans h.out, fun B o hB => ?_, fun B o hB => hold B o (h.F B o hB), fun B => ?_, h.dom, fun i x hi => ?_, h.inj⟩
  · have hB : (if B = w.heap.size then some ob else E.K B) = some o := hB
    by_cases e : B = w.heap.size
    · rw [if_pos e] at hB
      rw [e, hnew, hB]
    · rw [if_neg e] at hB
      exact hold B o (h.K B o hB)
  · by_cases e : B = w.heap.size
    · subst e; exact .inr hF0
    · rcases h.KF B with hk | hf
      · exact .inl ((if_neg e).trans hk)
      · exact .inr hf
  · obtain ⟨p, o, h1, h2, h3, h4, h5⟩ := h.live i x hi
    refine ⟨p, o, h1, ?_, h3, hold _ _ h4, h5.mono hx.knows⟩
    have := hsz _ _ h4
    exact (if_neg (by omega)).trans h2

inductive Kind where
  | idle
  | read
  | alloc (x : AObj)
  | eff
  | frz

def Kind.isEff : Kind → Bool
  | .eff => true
  | _ => false
def Kind.isAlloc : Kind → Bool
  | .alloc _ => true
  | _ => false

def Step (P : Program) (G : Nat → Option AV) (ops : Array Oper) (o : Oper) (T : Nat → AV) (H : AHeap) (v : AV) (k : Kind) (H' : AHeap) : Prop :=
  match k with
  | .idle => ((awanted ops T o = false ∧ v = undefA) ∨ (awanted ops T o = true ∧ apure P (aval G T) o = some v)) ∧ H' = H
  | .read => awanted ops T o = true ∧ aread P (aval G T) H.get o = some v ∧ H' = H
  | .alloc cs => awanted ops T o = true ∧ ∃ f, aalloc P (aval G T) o = some (cs, f) ∧ v = f H.next ∧ H' = H.push cs
  | .frz => awanted ops T o = true ∧ afrz P (aval G T) o = some v ∧ H' = H
  | .eff => awanted ops T o = true ∧ ((∃ e, aeff P (aval G T) H.get H.next o = some (v, e) ∧ H' = H.eff e) ∨ ∃ f args, acallee (aval G T) o = some (f, args) ∧ Does P G f args H fun r h => r = v ∧ h = H')

/-- i must come ahead of j. -/
inductive Reach (ops : Array Oper) : Nat → Nat → Prop
  | edge {i j : Nat} {o : Oper} {e : Edge} (ho : ops[j]? = some o) (he : e ∈ o.after) (hb : Region.binds .any e = true) (hi : e.on = i) : Reach ops i j
  | trans {i j k : Nat} (h : Reach ops i j) (g : Reach ops j k) : Reach ops i k

structure Run (P : Program) (G : Nat → Option AV) (N : Nat) (ops : Array Oper) where
  T : Nat → Nat → AV
  H : Nat → AHeap
  v : Nat → AV
  k : Nat → Kind
  step : ∀ i o, ops[i]? = some o → Step P G ops o (T i) (H i) (v i) (k i) (H (i + 1))
  put : ∀ i o, ops[i]? = some o → T (i + 1) = tput (T i) o.dst (v i)
  dst : ∀ (i : Nat) o, ops[i]? = some o → ∀ d, o.dst = some d → d < N
  mono : ∀ i, i < ops.size → (H i).next ≤ (H (i + 1)).next
  /-- edges lead back -/
  back : ∀ i o, ops[i]? = some o → ∀ e ∈ o.after, Region.binds .any e = true → e.on < i
  /-- whatever touches one slot is in order -/
  slots : ∀ i j o q, i < j → ops[i]? = some o → ops[j]? = some q → (o.apart ops q = false) → Reach ops i j
  /-- what writes is in order; what lays a block comes behind what it is not ordered with -/
  effs : ∀ i j, i < j → j < ops.size → (k j).isEff = true → ((k i).isEff = true ∨ (k i).isAlloc = true) → Reach ops i j
  /-- a read gives the same wherever it may stand -/
  reads : ∀ r o, ops[r]? = some o → k r = .read → ∀ q, q ≤ ops.size → (q = 0 ∨ ∃ e, q = e + 1 ∧ (k e).isEff = true) → (∀ e, e < q → (k e).isEff = true → ¬ Reach ops r e) → (∀ e, q ≤ e → e < ops.size → (k e).isEff = true → ¬ Reach ops e r) →
    ∀ g : Nat → Option AObj, (∀ j x, (H q).get j = some x → g j = some x) → (∀ a x, q ≤ a → k a = .alloc x → Reach ops a r → g (H a).next = some x) → aread P (aval G (T r)) g o = some (v r)

section
variable {P : Program} {G : Nat → Option AV} {N : Nat} {ops : Array Oper}

theorem get_lt {i : Nat} {o : Oper} (h : ops[i]? = some o) : i < ops.size := by
  rcases Nat.lt_or_ge i ops.size with q | q
  · exact q
  · rw [Array.getElem?_eq_none q] at h; simp at h

theorem get_of {i : Nat} (h : i < ops.size) : ∃ o, ops[i]? = some o := ⟨ops[i], Array.getElem?_eq_getElem h⟩

theorem Run.reach_lt (R : Run P G N ops) {i j : Nat} (h : Reach ops i j) : i < j := by
  induction h with
  | edge ho he hb hi => subst hi; exact R.back _ _ ho _ he hb
  | trans _ _ a b => omega

/-- The run in the text's order can be gone in the model. -/
theorem Run.real (R : Run P G N ops) {E : Env} {w : World} {a : Act} (hG : GRel E G) (hR : Rel E (R.H 0) w) (hT : TRel E N (R.T 0) a.tmps) : ∀ i, i ≤ ops.size → ∃ (E' : Env) (w' : World) (a' : Act), Ext E E' ∧ Rel E' (R.H i) w' ∧ TRel E' N (R.T i) a'.tmps
  | 0, _ => ⟨E, w, a, Ext.refl E, hR, hT⟩
  | i + 1, hi => by
    obtain ⟨E1, w1, a1, hx, hR1, hT1⟩ := R.real hG hR hT i (by omega)
    obtain ⟨o, ho⟩ := get_of (ops := ops) (i := i) (by omega)
    have hs := R.step i o ho
    rw [R.put i o ho]
    have hd := R.dst i o ho
    have hops := hT1.operands (hG.mono hx.knows) o.op.operands.toList
    have fin : ∀ E2 w2 u, Ext E1 E2 → VRel E2 (R.v i) u → Rel E2 (R.H (i + 1)) w2 → ∃ (E' : Env) (w' : World) (a' : Act), Ext E E' ∧ Rel E' (R.H (i + 1)) w' ∧ TRel E' N (tput (R.T i) o.dst (R.v i)) a'.tmps := fun E2 w2 u h1 h2 h3 =>
      ⟨E2, w2, a1.put o.dst u, hx.trans h1, h3, (hT1.mono h1.knows).put o.dst h2 hd⟩
    generalize hk : R.k i = k at hs
    cases k with
    | idle =>
      obtain ⟨h1, h2⟩ := hs
      rcases h1 with ⟨_, h1⟩ | ⟨_, h1⟩
      · exact fin E1 w1 undef (Ext.refl _) (by rw [h1]; exact undef_rel _) (by rw [h2]; exact hR1)
      · obtain ⟨u, g1, _⟩ := apure_sound (P := P) hops h1
        exact fin E1 w1 u (Ext.refl _) g1 (by rw [h2]; exact hR1)
    | read =>
      obtain ⟨_, h1, h2⟩ := hs
      obtain ⟨u, g1, _⟩ := aread_sound hR1 hops h1
      exact fin E1 w1 u (Ext.refl _) g1 (by rw [h2]; exact hR1)
    | alloc cs =>
      obtain ⟨_, f, h1, h2, h3⟩ := hs
      obtain ⟨E2, u, w2, g1, g2, g3, _⟩ := OpRes.ofLays hR1 (aalloc_sound hops h1)
      exact fin E2 w2 u g1 (by rw [h2]; exact g2) (by rw [h3]; exact g3)
    | frz =>
      obtain ⟨_, h1, h2⟩ := hs
      obtain ⟨ob, u, w2, _, g2, g3, g4, g5⟩ := afrz_sound hops h1 w1
      obtain ⟨E2, k1, _, k3, k4⟩ := hR1.pushK g2 g3 g4
      exact fin E2 w2 u k1 (g5 E2 k1.knows k3) (by rw [h2]; exact k4)
    | eff =>
      obtain ⟨hw, h⟩ := hs
      clear hw
      rcases h with ⟨e, h1, h2⟩ | ⟨f, args, h1, h2⟩
      · obtain ⟨E2, u, w2, g1, g2, g3, _⟩ := aeff_sound hR1 hops h1
        exact fin E2 w2 u g1 g2 (by rw [h2]; exact g3)
      · have hargs : ∃ vs, VRels E1 args vs := by
          obtain ⟨dst, op, ty, pos, after, guard⟩ := o
          unfold acallee at h1
          cases op <;> simp only at h1 <;> try (simp at h1; done)
          rename_i c
          obtain ⟨callee, cargs, argTypes⟩ := c
          cases callee <;> simp only at h1 <;> try (simp at h1; done)
          rename_i fo
          split at h1 <;> try (simp at h1; done)
          rename_i k first captured as_ hf has
          simp only [Option.some.injEq, Prod.mk.injEq] at h1
          obtain ⟨rfl, rfl⟩ := h1
          have hops' := hT1.operands (hG.mono hx.knows) (fo :: cargs.toList)
          have hfv := hops' fo (by simp) _ hf
          have hargs := avals_sound (E := E1) (σ := a1.eval) (fun x hx => hops' x (by simp [hx])) has
          generalize a1.eval fo = fv at hfv
          cases hfv with | func hf1 hc1 =>
          exact ⟨_, (hf1.append hargs).append hc1⟩
        obtain ⟨vs, hvs⟩ := hargs
        rcases h2.run E1 w1 vs hR1 (hG.mono hx.knows) hvs with ⟨_, hc⟩ | ⟨u, w2, _, r, H', E2, ⟨rfl, rfl⟩, g2, g3, g4⟩
        · obtain ⟨e, w2, fr, ⟨u, _, r, H', E2, ⟨rfl, rfl⟩, g2, g3, g4⟩, _⟩ := hc []
          exact fin E2 w2 u g2 g3 g4
        · exact fin E2 w2 u g2 g3 g4

theorem Run.mono_le (R : Run P G N ops) {i : Nat} : ∀ j, i ≤ j → j ≤ ops.size → (R.H i).next ≤ (R.H j).next
  | 0, h, _ => by have : i = 0 := by omega
                  subst this; exact Nat.le_refl _
  | j + 1, h, hj => by
    by_cases e : i = j + 1
    · subst e; exact Nat.le_refl _
    · exact Nat.le_trans (R.mono_le j (by omega) (by omega)) (R.mono j (by omega))

theorem Run.alloc_next (R : Run P G N ops) {a : Nat} {cs : AObj} (ha : a < ops.size) (hk : R.k a = .alloc cs) : R.H (a + 1) = (R.H a).push cs := by
  obtain ⟨o, ho⟩ := get_of (ops := ops) ha
  have hs := R.step a o ho
  rw [hk] at hs
  obtain ⟨_, f, _, _, h⟩ := hs
  exact h

theorem Run.alloc_lt (R : Run P G N ops) {a b : Nat} {cs : AObj} (hab : a < b) (hb : b ≤ ops.size) (hk : R.k a = .alloc cs) : (R.H a).next < (R.H b).next := by
  have h1 := R.mono_le (i := a + 1) b (by omega) hb
  rw [R.alloc_next (by omega) hk] at h1
  exact h1

/-- What the slots hold when the operations of l are done. -/
def Run.TS (R : Run P G N ops) (l : Nat → Bool) : Nat → Nat → AV
  | 0 => R.T 0
  | k + 1 => match ops[k]? with
    | some o => if l k then tput (R.TS l k) o.dst (R.v k) else R.TS l k
    | none => R.TS l k

/-- The blocks that operations of l from q on have laid. -/
def Run.ex (R : Run P G N ops) (l : Nat → Bool) (q : Nat) : Nat → Nat → Option AObj
  | 0, _ => none
  | k + 1, i => match R.k k with
    | .alloc cs => if l k = true ∧ q ≤ k ∧ i = (R.H k).next then some cs else R.ex l q k i
    | _ => R.ex l q k i

theorem Run.ex_some (R : Run P G N ops) {l : Nat → Bool} {q : Nat} : ∀ {k i : Nat} {x : AObj}, R.ex l q k i = some x → ∃ a cs, a < k ∧ R.k a = .alloc cs ∧ l a = true ∧ q ≤ a ∧ i = (R.H a).next ∧ x = cs
  | 0, i, x, h => by simp [Run.ex] at h
  | k + 1, i, x, h => by
    simp only [Run.ex] at h
    split at h
    · rename_i cs hk
      split at h
      · rename_i hc
        simp only [Option.some.injEq] at h
        exact ⟨k, cs, by omega, hk, hc.1, hc.2.1, hc.2.2, h.symm⟩
      · obtain ⟨a, cs', h1, rest⟩ := R.ex_some h
        exact ⟨a, cs', by omega, rest⟩
    · obtain ⟨a, cs', h1, rest⟩ := R.ex_some h
      exact ⟨a, cs', by omega, rest⟩

theorem Run.ex_of (R : Run P G N ops) {l : Nat → Bool} {q : Nat} : ∀ {k a : Nat} {cs : AObj}, k ≤ ops.size → a < k → R.k a = .alloc cs → l a = true → q ≤ a → R.ex l q k (R.H a).next = some cs
  | 0, a, cs, _, h, _, _, _ => by omega
  | k + 1, a, cs, hk, h, ha, hl, hq => by
    simp only [Run.ex]
    by_cases e : a = k
    · subst e
      rw [ha]
      simp [hl, hq]
    · have ih := R.ex_of (l := l) (q := q) (k := k) (by omega) (by omega) ha hl hq
      split
      · rename_i cs' hk'
        rw [if_neg]
        · exact ih
        · rintro ⟨_, _, e'⟩
          have := R.alloc_lt (a := a) (b := k) (by omega) (by omega) ha
          omega
      · exact ih

/-- Two lists of what is done that agree on what lays blocks from q on. -/
theorem Run.ex_congr (R : Run P G N ops) {l l' : Nat → Bool} {q q' : Nat} : ∀ (k : Nat), (∀ a cs, a < k → R.k a = .alloc cs → ((l a = true ∧ q ≤ a) ↔ (l' a = true ∧ q' ≤ a))) → ∀ i, R.ex l q k i = R.ex l' q' k i
  | 0, _, _ => rfl
  | k + 1, h, i => by
    have ih := R.ex_congr k (fun a cs ha => h a cs (by omega)) i
    simp only [Run.ex]
    split
    · rename_i cs hk
      have := h k cs (by omega) hk
      by_cases c : l k = true ∧ q ≤ k
      · have c' := this.1 c
        by_cases e : i = (R.H k).next
        · rw [if_pos ⟨c.1, c.2, e⟩, if_pos ⟨c'.1, c'.2, e⟩]
        · rw [if_neg (fun x => e x.2.2), if_neg (fun x => e x.2.2)]; exact ih
      · have c' := fun x => c (this.2 x)
        rw [if_neg (fun x => c ⟨x.1, x.2.1⟩), if_neg (fun x => c' ⟨x.1, x.2.1⟩)]; exact ih
    · exact ih

def Run.X (R : Run P G N ops) (l : Nat → Bool) (q : Nat) : AHeap := { next := (R.H ops.size).next, get := R.ex l q ops.size }
def Run.HS (R : Run P G N ops) (l : Nat → Bool) (q : Nat) : AHeap := (R.H q).over (R.X l q)

theorem AHeap.ext' {A B : AHeap} (h1 : A.next = B.next) (h2 : ∀ i, A.get i = B.get i) : A = B := by
  cases A; cases B
  simp only at h1
  subst h1
  have : (_ : Nat → Option AObj) = _ := funext h2
  simp only at this
  rw [this]

/-- Where nothing writes between q and m, and all that lays a block there is done. -/
theorem Run.HS_eq (R : Run P G N ops) {l : Nat → Bool} {q : Nat} : ∀ m, q ≤ m → m ≤ ops.size → (∀ j, q ≤ j → j < m → (R.k j).isEff = false) → (∀ j, q ≤ j → j < m → (R.k j).isAlloc = true → l j = true) → R.HS l q = R.HS l m
  | 0, h, _, _, _ => by have : q = 0 := by omega
                        subst this; rfl
  | m + 1, h, hm, he, hl => by
    by_cases e : q = m + 1
    · subst e; rfl
    · have ih := R.HS_eq m (by omega) (by omega) (fun j a b => he j a (by omega)) (fun j a b => hl j a (by omega))
      rw [ih]
      have hne := he m (by omega) (by omega)
      obtain ⟨o, ho⟩ := get_of (ops := ops) (i := m) (by omega)
      have hs := R.step m o ho
      generalize hk : R.k m = k at hs hne
      have same : (∀ cs, k ≠ .alloc cs) → R.H (m + 1) = R.H m → R.HS l m = R.HS l (m + 1) := fun hna hH => by
        unfold Run.HS Run.X
        rw [hH]
        refine AHeap.ext' rfl fun i => ?_
        simp only [AHeap.over]
        rw [R.ex_congr (l := l) (l' := l) (q := m) (q' := m + 1) ops.size (fun a cs ha hka => ⟨fun x => ⟨x.1, by
          have : a ≠ m := fun e => by subst e; rw [hk] at hka; exact hna cs hka
          omega⟩, fun x => ⟨x.1, by omega⟩⟩) i]
      cases k with
      | idle => obtain ⟨_, h⟩ := hs; exact same (fun _ e => by cases e) h
      | read => obtain ⟨_, _, h⟩ := hs; exact same (fun _ e => by cases e) h
      | frz => obtain ⟨_, _, h⟩ := hs; exact same (fun _ e => by cases e) h
      | eff => simp [Kind.isEff] at hne
      | alloc cs =>
        have hlm : l m = true := hl m (by omega) (by omega) (by rw [hk]; rfl)
        have hH := R.alloc_next (by omega) hk
        unfold Run.HS Run.X
        refine AHeap.ext' rfl fun i => ?_
        simp only [AHeap.over, hH, AHeap.get_push]
        by_cases ei : i = (R.H m).next
        · subst ei
          rw [R.ex_of (l := l) (q := m) (Nat.le_refl _) (by omega) hk hlm (Nat.le_refl _)]
          have : R.ex l (m + 1) ops.size (R.H m).next = none := by
            cases hx : R.ex l (m + 1) ops.size (R.H m).next with
            | none => rfl
            | some x =>
              obtain ⟨a, cs', h1, h2, h3, h4, h5, h6⟩ := R.ex_some hx
              have := R.alloc_lt (a := m) (b := a) (by omega) (by omega) hk
              omega
          rw [this]
          simp
        · rw [if_neg ei]
          have : R.ex l m ops.size i = R.ex l (m + 1) ops.size i := by
            cases hx : R.ex l (m + 1) ops.size i with
            | some x =>
              obtain ⟨a, cs', h1, h2, h3, h4, h5, h6⟩ := R.ex_some hx
              rw [h5, R.ex_of (l := l) (q := m) (Nat.le_refl _) h1 h2 h3 (by omega), h6]
            | none =>
              cases hy : R.ex l m ops.size i with
              | none => rfl
              | some y =>
                obtain ⟨a, cs', h1, h2, h3, h4, h5, h6⟩ := R.ex_some hy
                by_cases ea : a = m
                · subst ea; exact absurd h5 ei
                · have := R.ex_of (l := l) (q := m + 1) (Nat.le_refl _) h1 h2 h3 (by omega)
                  rw [← h5, hx] at this
                  simp at this
          rw [this]

end
end Go.Abs
