/-
  A simplified meaning for Go code, first part: abstract values, abstract heap, and the relation to the model's world.
-/
import Derived.Calls
import Derived.Orders
import Derived.Laws.Cells
import Derived.Laws.Append
import Derived.Laws.Rows
namespace Go.Abs
open Go

/-- Abstract values. 'ptr', 'sl' point into a live block of the abstract heap; 'vptr', 'vsl' carry what lies in frozen memory. -/
inductive AV where
  | bool (b : Bool)
  | int (k : IntKind) (n : Int)
  | str (s : List UInt8)
  | nilptr
  | ptr (i o : Nat)
  | vptr (cs : List AV)
  | nilsl
  | sl (i o z len cap : Nat) (opn : Bool)
  | vsl (cs : List AV) (len : Nat)
  | nilmap
  | func (fn : Fn) (first captured : List AV)
  | nilfunc
  | iface (t : TypeId) (v : AV)
  | niliface
  | agg (cs : List AV)
  | tuple (vs : List AV)
  deriving Inhabited

def AV.cells : AV → List AV
  | .agg cs => cs
  | v => [v]

def AV.scalar : AV → Bool
  | .agg _ | .tuple _ => false
  | _ => true

/-- What an abstract block is. -/
inductive AObj where
  | cells (cs : List AV)
  deriving Inhabited

structure AHeap where
  next : Nat
  get : Nat → Option AObj

def AHeap.push (H : AHeap) (x : AObj) : AHeap := { next := H.next + 1, get := fun j => if j = H.next then some x else H.get j }
def AHeap.set (H : AHeap) (i : Nat) (x : AObj) : AHeap := { next := H.next, get := fun j => if j = i then some x else H.get j }
def AHeap.kill (H : AHeap) (i : Nat) : AHeap := { next := H.next, get := fun j => if j = i then none else H.get j }
def AHeap.empty (n : Nat) : AHeap := { next := n, get := fun _ => none }

/-- Where an abstract block lies: the model's block, from which cell on, and how many cells that block has. -/
structure Place where
  b : Nat
  s : Nat
  n : Nat

structure Env where
  φ : Nat → Option Place
  K : Nat → Option Obj
  F : Nat → Option Obj
  os : Os
  out : Array (Nat × ByteArray)

def InK (E : Env) (B o : Nat) (vs : List Value) : Prop := vs = [] ∨ ∃ c e f, E.K B = some (.cells c e f) ∧ vs <+: c.toList.drop o

mutual
inductive VRel (E : Env) : AV → Value → Prop
  | bool (b : Bool) : VRel E (.bool b) (.bool b)
  | int (k : IntKind) (n : Int) : VRel E (.int k n) (.int k n)
  | str (s : List UInt8) : VRel E (.str s) (.string ⟨s.toArray⟩)
  | nilptr : VRel E .nilptr (.pointer none)
  | ptr {i o : Nat} {p : Place} (h : E.φ i = some p) : VRel E (.ptr i o) (.pointer (some ⟨p.b, p.s + o, none⟩))
  | vptr {cs : List AV} {B o : Nat} {vs : List Value} (hK : InK E B o vs) (hv : VRels E cs vs) : VRel E (.vptr cs) (.pointer (some ⟨B, o, none⟩))
  | nilsl : VRel E .nilsl (.slice none 0 0)
  | sl {i o z len cap c' : Nat} {opn : Bool} {p : Place} (h : E.φ i = some p) (hl : len ≤ cap) (hc : cap ≤ c') (ho : opn = false → c' = cap) (hn : p.s + o + c' * z ≤ p.n) :
      VRel E (.sl i o z len cap opn) (.slice (some ⟨p.b, p.s + o, none⟩) len c')
  | vsl {cs : List AV} {B o len cap : Nat} {vs : List Value} (hK : InK E B o vs) (hv : VRels E cs vs) (hl : len ≤ cap) : VRel E (.vsl cs len) (.slice (some ⟨B, o, none⟩) len cap)
  | vsl0 {a : Addr} : VRel E (.vsl [] 0) (.slice (some a) 0 0)
  | nilmap : VRel E .nilmap (.map none)
  | func {fn : Fn} {f1 c1 : List AV} {f2 c2 : Array Value} (hf : VRels E f1 f2.toList) (hc : VRels E c1 c2.toList) : VRel E (.func fn f1 c1) (.func fn f2 c2)
  | nilfunc : VRel E .nilfunc .nilFunc
  | iface {t : TypeId} {a : AV} {v : Value} (h : VRel E a v) : VRel E (.iface t a) (.iface t v)
  | niliface : VRel E .niliface .nilIface
  | agg {cs : List AV} {vs : Array Value} (h : VRels E cs vs.toList) : VRel E (.agg cs) (.agg vs)
  | tuple {cs : List AV} {vs : Array Value} (h : VRels E cs vs.toList) : VRel E (.tuple cs) (.tuple vs)
inductive VRels (E : Env) : List AV → List Value → Prop
  | nil : VRels E [] []
  | cons {a : AV} {v : Value} {as : List AV} {vs : List Value} (h : VRel E a v) (t : VRels E as vs) : VRels E (a :: as) (v :: vs)
end

structure Ext (E E' : Env) : Prop where
  φ : ∀ i p, E.φ i = some p → E'.φ i = some p
  K : ∀ B o, E.K B = some o → E'.K B = some o
  F : E'.F = E.F
  os : E'.os = E.os
  out : E'.out = E.out

theorem Ext.refl (E : Env) : Ext E E := ⟨fun _ _ h => h, fun _ _ h => h, rfl, rfl, rfl⟩
theorem Ext.trans {A B C : Env} (h : Ext A B) (k : Ext B C) : Ext A C :=
  ⟨fun i p x => k.φ i p (h.φ i p x), fun i p x => k.K i p (h.K i p x), k.F.trans h.F, k.os.trans h.os, k.out.trans h.out⟩

/-- E' knows at least what E knows (of where blocks lie, of what is frozen). -/
structure Knows (E E' : Env) : Prop where
  φ : ∀ i p, E.φ i = some p → E'.φ i = some p
  K : ∀ B o, E.K B = some o → E'.K B = some o

theorem Knows.refl (E : Env) : Knows E E := ⟨fun _ _ h => h, fun _ _ h => h⟩
theorem Knows.trans {A B C : Env} (h : Knows A B) (k : Knows B C) : Knows A C :=
  ⟨fun i p x => k.φ i p (h.φ i p x), fun i p x => k.K i p (h.K i p x)⟩
theorem Ext.knows {E E' : Env} (h : Ext E E') : Knows E E' := ⟨h.φ, h.K⟩

theorem InK.mono {E E' : Env} (x : Knows E E') {B o : Nat} {vs : List Value} (h : InK E B o vs) : InK E' B o vs := by
  rcases h with h | ⟨c, e, f, h1, h2⟩
  · exact .inl h
  · exact .inr ⟨c, e, f, x.K _ _ h1, h2⟩

mutual
theorem VRel.mono {E E' : Env} (x : Knows E E') : ∀ {a : AV} {v : Value}, VRel E a v → VRel E' a v
  | _, _, .bool b => .bool b
  | _, _, .int k n => .int k n
  | _, _, .str s => .str s
  | _, _, .nilptr => .nilptr
  | _, _, .ptr h => .ptr (x.φ _ _ h)
  | _, _, .vptr hK hv => .vptr (hK.mono x) (VRels.mono x hv)
  | _, _, .nilsl => .nilsl
  | _, _, .sl h hl hc ho hn => .sl (x.φ _ _ h) hl hc ho hn
  | _, _, .vsl hK hv hl => .vsl (hK.mono x) (VRels.mono x hv) hl
  | _, _, .vsl0 => .vsl0
  | _, _, .nilmap => .nilmap
  | _, _, .func hf hc => .func (VRels.mono x hf) (VRels.mono x hc)
  | _, _, .nilfunc => .nilfunc
  | _, _, .iface h => .iface (VRel.mono x h)
  | _, _, .niliface => .niliface
  | _, _, .agg h => .agg (VRels.mono x h)
  | _, _, .tuple h => .tuple (VRels.mono x h)
theorem VRels.mono {E E' : Env} (x : Knows E E') : ∀ {as : List AV} {vs : List Value}, VRels E as vs → VRels E' as vs
  | _, _, .nil => .nil
  | _, _, .cons h t => .cons (VRel.mono x h) (VRels.mono x t)
end

theorem VRels.length {E : Env} {as : List AV} {vs : List Value} (h : VRels E as vs) : vs.length = as.length := by
  induction as generalizing vs with
  | nil => cases h; rfl
  | cons a as ih => cases h with | cons h t => simp [ih t]

theorem VRels.get? {E : Env} {as : List AV} {vs : List Value} (h : VRels E as vs) {j : Nat} {a : AV} (ha : as[j]? = some a) : ∃ v, vs[j]? = some v ∧ VRel E a v := by
  induction as generalizing vs j with
  | nil => simp at ha
  | cons b as ih =>
    cases h with
    | cons h t =>
      cases j with
      | zero => simp at ha; subst ha; exact ⟨_, rfl, h⟩
      | succ j => simpa using ih t (by simpa using ha)

theorem VRels.get?' {E : Env} {as : List AV} {vs : List Value} (h : VRels E as vs) {j : Nat} {v : Value} (hv : vs[j]? = some v) : ∃ a, as[j]? = some a ∧ VRel E a v := by
  induction as generalizing vs j with
  | nil => cases h; simp at hv
  | cons b as ih =>
    cases h with
    | cons h t =>
      cases j with
      | zero => simp at hv; subst hv; exact ⟨_, rfl, h⟩
      | succ j => simpa using ih t (by simpa using hv)

theorem VRels.append {E : Env} {as bs : List AV} {vs ws : List Value} (h : VRels E as vs) (k : VRels E bs ws) : VRels E (as ++ bs) (vs ++ ws) := by
  induction as generalizing vs with
  | nil => cases h; exact k
  | cons a as ih => cases h with | cons h t => exact .cons h (ih t)

theorem VRels.drop {E : Env} {as : List AV} {vs : List Value} (h : VRels E as vs) (n : Nat) : VRels E (as.drop n) (vs.drop n) := by
  induction n generalizing as vs with
  | zero => exact h
  | succ n ih => cases h with
    | nil => exact .nil
    | cons h t => exact ih t

theorem VRels.take {E : Env} {as : List AV} {vs : List Value} (h : VRels E as vs) (n : Nat) : VRels E (as.take n) (vs.take n) := by
  induction n generalizing as vs with
  | zero => exact .nil
  | succ n ih => cases h with
    | nil => exact .nil
    | cons h t => exact .cons h (ih t)

theorem VRels.set {E : Env} {as : List AV} {vs : List Value} (h : VRels E as vs) (n : Nat) {a : AV} {v : Value} (k : VRel E a v) : VRels E (as.set n a) (vs.set n v) := by
  induction n generalizing as vs with
  | zero => cases h with
    | nil => exact .nil
    | cons h t => exact .cons k t
  | succ n ih => cases h with
    | nil => exact .nil
    | cons h t => exact .cons h (ih t)

theorem VRels.of_get {E : Env} : ∀ {as : List AV} {vs : List Value}, as.length = vs.length → (∀ (j : Nat) (a : AV) (v : Value), as[j]? = some a → vs[j]? = some v → VRel E a v) → VRels E as vs
  | [], [], _, _ => .nil
  | a :: as, v :: vs, hl, h => .cons (h 0 a v rfl rfl) (VRels.of_get (by simpa using hl) (fun j a v ha hv => h (j + 1) a v (by simpa using ha) (by simpa using hv)))

theorem VRels.getD {E : Env} {as : List AV} {vs : List Value} (h : VRels E as vs) (j : Nat) {a : AV} {v : Value} (k : VRel E a v) : VRel E (as.getD j a) (vs.getD j v) := by
  have hl := h.length
  by_cases hj : j < as.length
  · obtain ⟨w, hw, hr⟩ := h.get? (List.getElem?_eq_getElem hj)
    simp only [List.getD, hw, List.getElem?_eq_getElem hj, Option.getD_some]
    exact hr
  · simp only [List.getD]
    rw [List.getElem?_eq_none (by omega), List.getElem?_eq_none (by omega)]
    exact k

theorem VRel.cells {E : Env} {a : AV} {v : Value} (h : VRel E a v) : VRels E a.cells v.cells.toList := by
  cases h <;> first
    | (rename_i hh; exact hh)
    | exact .cons .vsl0 .nil
    | (refine .cons ?_ .nil; constructor <;> assumption)

theorem VRel.oneCell {E : Env} {a : AV} {v : Value} (h : VRel E a v) (hs : a.scalar = true) : v.oneCell' = true := by
  cases h <;> simp_all [AV.scalar, Value.oneCell']

/-- No cell of a block of n cells is frozen. (A mark behind its end may be set.) -/
def Unfr (fz : Nat × Nat) (n : Nat) : Prop := fz.1 = fz.2 ∨ n ≤ fz.1

theorem Unfr.out {fz : Nat × Nat} {n : Nat} (h : Unfr fz n) (o : Nat) (ho : o < n) : ¬ (fz.1 ≤ o ∧ o < fz.2) := by
  rcases h with h | h <;> omega

/-- What a live block of the abstract heap is in the model's heap. -/
def ORel (E : Env) (p : Place) : AObj → Obj → Prop
  | .cells cs, ob => ∃ c e fz vs, ob = .cells c e fz ∧ c.size = p.n ∧ VRels E cs vs ∧ vs <+: c.toList.drop p.s ∧ Unfr fz p.n

theorem ORel.mono {E E' : Env} (x : Knows E E') {p : Place} {a : AObj} {ob : Obj} (h : ORel E p a ob) : ORel E' p a ob := by
  cases a with
  | cells cs => obtain ⟨c, e, fz, vs, h1, h2, h3, h4, h5⟩ := h; exact ⟨c, e, fz, vs, h1, h2, h3.mono x, h4, h5⟩

structure Rel (E : Env) (H : AHeap) (w : World) : Prop where
  os : w.os = E.os
  out : w.output = E.out
  K : ∀ B o, E.K B = some o → w.heap[B]? = some o
  F : ∀ B o, E.F B = some o → w.heap[B]? = some o
  KF : ∀ B, E.K B = none ∨ E.F B = none
  dom : ∀ i p, E.φ i = some p → i < H.next
  live : ∀ i x, H.get i = some x → ∃ p ob, E.φ i = some p ∧ E.K p.b = none ∧ E.F p.b = none ∧ w.heap[p.b]? = some ob ∧ ORel E p x ob
  inj : ∀ i j x y p q, H.get i = some x → H.get j = some y → E.φ i = some p → E.φ j = some q → p.b = q.b → i = j

theorem Rel.drew {E : Env} {H : AHeap} {w : World} (h : Rel E H w) : Rel E H w.drew := ⟨h.os, h.out, h.K, h.F, h.KF, h.dom, h.live, h.inj⟩

theorem Rel.lt {E : Env} {H : AHeap} {w : World} (h : Rel E H w) {i : Nat} {x : AObj} (hx : H.get i = some x) : i < H.next := by
  obtain ⟨p, _, hp, _⟩ := h.live i x hx
  exact h.dom i p hp

def Env.put (E : Env) (i : Nat) (p : Place) : Env := { E with φ := fun j => if j = i then some p else E.φ j }
def Env.freeze (E : Env) (B : Nat) (o : Obj) : Env := { E with K := fun C => if C = B then some o else E.K C }

theorem Env.put_ext {E : Env} {i : Nat} {p : Place} (h : E.φ i = none) : Ext E (E.put i p) := by
  refine ⟨fun j q hj => ?_, fun _ _ h => h, rfl, rfl, rfl⟩
  simp only [Env.put]
  split
  · rename_i e; subst e; rw [h] at hj; simp at hj
  · exact hj

theorem Rel.fresh {E : Env} {H : AHeap} {w : World} (h : Rel E H w) : E.φ H.next = none := by
  cases hh : E.φ H.next with
  | none => rfl
  | some p => exact absurd (h.dom _ _ hh) (Nat.lt_irrefl _)

/-- A new block, wherever it stands from in the model (n cells, all of them known). -/
theorem Rel.alloc {E : Env} {H : AHeap} {w : World} (h : Rel E H w) (cs : List AV) (vs : List Value) (c : Array Value) (e : TypeId) (fz : Nat × Nat)
    (hv : VRels E cs vs) (hp : vs <+: c.toList) (hfz : Unfr fz c.size) :
    Rel (E.put H.next ⟨w.heap.size, 0, c.size⟩) (H.push (.cells cs)) (w.alloc (.cells c e fz)) := by
  have hx := (Env.put_ext (E := E) (i := H.next) (p := ⟨w.heap.size, 0, c.size⟩) h.fresh)
  have hsz : ∀ B o, w.heap[B]? = some o → B < w.heap.size := fun B o hb => by
    rcases Nat.lt_or_ge B w.heap.size with q | q
    · exact q
    · rw [Array.getElem?_eq_none q] at hb; simp at hb
  have hold : ∀ B o, w.heap[B]? = some o → (w.alloc (.cells c e fz)).heap[B]? = some o := fun B o hb => by
    have := hsz B o hb
    rw [heap_alloc_old w _ B this]; exact hb
  refine ⟨h.os, h.out, fun B o hb => hold B o (h.K B o hb), fun B o hb => hold B o (h.F B o hb), h.KF, ?_, ?_, ?_⟩
  · intro i p hp
    simp only [Env.put] at hp
    simp only [AHeap.push]
    split at hp
    · omega
    · have := h.dom i p hp; omega
  · intro i x hi
    simp only [AHeap.push] at hi
    split at hi
    · rename_i hin
      subst hin
      simp at hi; subst hi
      refine ⟨⟨w.heap.size, 0, c.size⟩, .cells c e fz, by simp [Env.put], ?_, ?_, heap_alloc_new w _, c, e, fz, vs, rfl, rfl, hv.mono hx.knows, by simpa using hp, hfz⟩
      · cases hk : E.K w.heap.size with
        | none => exact hk
        | some o => exact absurd (hsz _ _ (h.K _ _ hk)) (Nat.lt_irrefl _)
      · cases hk : E.F w.heap.size with
        | none => exact hk
        | some o => exact absurd (hsz _ _ (h.F _ _ hk)) (Nat.lt_irrefl _)
    · obtain ⟨p, ob, h1, h2, h3, h4, h5⟩ := h.live i x hi
      exact ⟨p, ob, hx.φ _ _ h1, h2, h3, hold _ _ h4, h5.mono hx.knows⟩
  · intro i j x y p q hi hj hpi hqj hpq
    simp only [AHeap.push] at hi hj
    simp only [Env.put] at hpi hqj
    split at hi <;> split at hj
    · omega
    · rename_i h1 h2
      rw [if_pos h1] at hpi; rw [if_neg h2] at hqj
      simp at hpi; subst hpi
      obtain ⟨q', ob, g1, _, _, g4, _⟩ := h.live j y hj
      rw [g1] at hqj; simp at hqj; subst hqj
      have := hsz _ _ g4
      simp at hpq; omega
    · rename_i h1 h2
      rw [if_neg h1] at hpi; rw [if_pos h2] at hqj
      simp at hqj; subst hqj
      obtain ⟨q', ob, g1, _, _, g4, _⟩ := h.live i x hi
      rw [g1] at hpi; simp at hpi; subst hpi
      have := hsz _ _ g4
      simp at hpq; omega
    · rename_i h1 h2
      rw [if_neg h1] at hpi; rw [if_neg h2] at hqj
      exact h.inj i j x y p q hi hj hpi hqj hpq

/-- Whatever is forgotten of the abstract heap. -/
theorem Rel.sub {E : Env} {H H' : AHeap} {w : World} (h : Rel E H w) (hn : H.next ≤ H'.next) (hs : ∀ i x, H'.get i = some x → H.get i = some x) : Rel E H' w :=
  ⟨h.os, h.out, h.K, h.F, h.KF, fun i p hp => Nat.lt_of_lt_of_le (h.dom i p hp) hn, fun i x hi => h.live i x (hs i x hi), fun i j x y p q hi hj => h.inj i j x y p q (hs i x hi) (hs j y hj)⟩

theorem Rel.kill {E : Env} {H : AHeap} {w : World} (h : Rel E H w) (i : Nat) : Rel E (H.kill i) w :=
  h.sub (Nat.le_refl _) fun j x hj => by
    simp only [AHeap.kill] at hj
    split at hj
    · simp at hj
    · exact hj

end Go.Abs
