/-
  A simplified meaning for Go code: walking by simp: the rules as functions. What simp should leave alone is hidden (Hid).
-/
import Derived.Test.YtcbiaeoladjecaaAbsU
namespace Go.Abs
open Go

/-- What simp does not look into: it is given as an instance. -/
class Hid (α : Type) where
  v : α

abbrev Post := Exit → (Nat → AV) → AHeap → Prop

/-- If it is there, k of it, else y. -/
def altO {α : Type} (x : Option α) [k : Hid (α → Prop)] [y : Hid Prop] : Prop := match x with
  | some a => k.v a
  | none => y.v

def condA (b : Bool) [x : Hid (Unit → Prop)] [y : Hid (Unit → Prop)] : Prop := if b = true then x.v () else y.v ()

def condV (v : Option AV) [x : Hid (Unit → Prop)] [y : Hid (Unit → Prop)] : Prop := match v with
  | some (.bool b) => @condA b x y
  | _ => False

theorem condV_of {b : Bool} {x y : Hid (Unit → Prop)} (h : b = true → x.v ()) (g : b = false → y.v ()) : @condV (some (.bool b)) x y := by
  cases b
  · exact g rfl
  · exact h rfl
theorem condV_dec {p : Prop} [Decidable p] {x y : Hid (Unit → Prop)} (h : p → x.v ()) (g : ¬ p → y.v ()) : @condV (some (.bool (decide p))) x y := condV_of (fun e => h (by simpa using e)) (fun e => g (by simpa using e))

/-- A call, and what comes behind it. -/
def DoesH (P : Program) (G : Nat → Option AV) (f : FuncId) (args : List AV) (H : AHeap) [R : Hid (AV → AHeap → Prop)] : Prop := Does P G f args H R.v

theorem does_use {P : Program} {G : Nat → Option AV} {f : FuncId} {args : List AV} {H : AHeap} {R : AV → AHeap → Prop} {R' : Hid (AV → AHeap → Prop)} (h : Does P G f args H R) (g : ∀ r H', R r H' → R'.v r H') : @DoesH P G f args H R' := h.mono g

structure Ctx where
  P : Program
  G : Nat → Option AV
  N : Nat

/-- Operations, as a function. -/
def ALr (X : Ctx) (ops : Array Oper) (Q : Post) : List Oper → (Nat → AV) → AHeap → Prop
  | [], T, H => Q .normal T H
  | o :: r, T, H =>
    (match o.dst with | some d => d < X.N | none => True) ∧
    @condA (awanted ops T o)
      ⟨fun _ => @altO _ (acallee (aval X.G T) o) ⟨fun fa => @DoesH X.P X.G fa.1 fa.2 H ⟨fun x H' => ALr X ops Q r (tput T o.dst x) H'⟩⟩
        ⟨@altO _ (aop X.P (aval X.G T) H.get H.next o) ⟨fun ve => ALr X ops Q r (tput T o.dst ve.1) (H.eff ve.2)⟩ ⟨False⟩⟩⟩
      ⟨fun _ => ALr X ops Q r (tput T o.dst undefA) H⟩

def ALf [X : Hid Ctx] [ops : Hid (Array Oper)] [Q : Hid Post] [l : Hid (List Oper)] [T : Hid (Nat → AV)] (H : AHeap) : Prop := ALr X.v ops.v Q.v l.v T.v H

theorem al_of {X : Ctx} {ops : Array Oper} {Q : Post} : ∀ {l : List Oper} {T : Nat → AV} {H : AHeap}, ALr X ops Q l T H → AL X.P X.G X.N ops l Q T H
  | [], T, H, h => al_nil h
  | o :: r, T, H, h => by
    obtain ⟨hd, h⟩ := h
    have hd' : ∀ k, o.dst = some k → k < X.N := fun k hk => by rw [hk] at hd; exact hd
    unfold condA at h
    split at h
    · rename_i hw
      simp only at h
      unfold altO at h
      split at h
      · rename_i fa hc
        exact al_call hw hd' hc (h.mono fun x H' hx => al_of hx)
      · simp only at h
        split at h
        · rename_i ve ho
          exact al_op hw hd' ho (al_of h)
        · exact h.elim
    · rename_i hw
      exact al_skip (by simpa using hw) hd' (al_of h)

/-- Code, where simp stops. -/
def AWs [X : Hid Ctx] [c : Hid Code] [Q : Hid Post] [T : Hid (Nat → AV)] (H : AHeap) : Prop := AW X.v.P X.v.G X.v.N c.v Q.v T.v H

/-- Code without loops and without regions that draw, as a function. -/
def AWr (X : Ctx) : Code → Post → (Nat → AV) → AHeap → Prop
  | .skip, Q, T, H => Q .normal T H
  | .region _ ops false, Q, T, H => ALr X ops Q ops.toList T H
  | .seq a b, Q, T, H => AWr X a (QThen (fun T H => AWr X b Q T H) Q) T H
  | .cond c x y, Q, T, H => @condV (aval X.G T c) ⟨fun _ => AWr X x Q T H⟩ ⟨fun _ => AWr X y Q T H⟩
  | .block id c, Q, T, H => AWr X c (QBlock id Q) T H
  | .exit id, Q, T, H => Q (.exit id) T H
  | .ret, Q, T, H => Q .ret T H
  | c, Q, T, H => AW X.P X.G X.N c Q T H

def AWf [X : Hid Ctx] [c : Hid Code] [Q : Hid Post] [T : Hid (Nat → AV)] (H : AHeap) : Prop := AWr X.v c.v Q.v T.v H
/-- A postcondition at a way out. -/
def PQ [Q : Hid Post] [e : Hid Exit] [T : Hid (Nat → AV)] (H : AHeap) : Prop := Q.v e.v T.v H

theorem aw_of {X : Ctx} : ∀ {c : Code} {Q : Post} {T : Nat → AV} {H : AHeap}, AWr X c Q T H → AW X.P X.G X.N c Q T H
  | .skip, Q, T, H, h => aw_skip h
  | .region _ ops false, Q, T, H, h => aw_region (al_of h)
  | .region _ ops true, Q, T, H, h => h
  | .seq a b, Q, T, H, h => by
    refine aw_seq (AW.mono (aw_of (c := a) h) ?_)
    intro e T' H' hq
    cases e <;> first | exact aw_of (c := b) hq | exact hq
  | .cond c x y, Q, T, H, h => by
    simp only [AWr] at h
    unfold condV at h
    split at h
    · rename_i b hb
      cases b
      · exact aw_cond hb (aw_of (by simpa [condA] using h))
      · exact aw_cond hb (aw_of (by simpa [condA] using h))
    · exact h.elim
  | .block id c, Q, T, H, h => aw_block (aw_of h)
  | .exit id, Q, T, H, h => aw_exit h
  | .ret, Q, T, H, h => aw_ret h
  | .loop c, Q, T, H, h => h
  | .rangeFunc .., Q, T, H, h => h
  | .scope _, Q, T, H, h => h
  | .label _, Q, T, H, h => h
  | .goto _, Q, T, H, h => h
  | .refuse _, Q, T, H, h => h

theorem awf_of {X : Ctx} {c : Code} {Q : Post} {T : Nat → AV} {H : AHeap} (h : @AWf ⟨X⟩ ⟨c⟩ ⟨Q⟩ ⟨T⟩ H) : AW X.P X.G X.N c Q T H := aw_of h

/-- A function's end. -/
def FEnd [P : Hid Program] [rs : Hid (List ResultVar)] [R : Hid (AV → AHeap → Prop)] [e : Hid Exit] [T : Hid (Nat → AV)] (H : AHeap) : Prop :=
  (e.v = .normal ∨ e.v = .ret) ∧ @altO _ (ares P.v T.v H.get rs.v) ⟨fun r => R.v r H⟩ ⟨False⟩

def fpost (P : Program) (rs : List ResultVar) (R : AV → AHeap → Prop) : Post := fun e T H => @FEnd ⟨P⟩ ⟨rs⟩ ⟨R⟩ ⟨e⟩ ⟨T⟩ H

theorem does_f {P : Program} {G : Nat → Option AV} {f : FuncId} {fn : Func} {c : Code} {args : List AV} {H : AHeap} {R : AV → AHeap → Prop} (he : Enters P f) (hf : P.funcs[f]? = some fn) (hb : fn.body = some c) (hn : args.length ≤ fn.ntmps)
    (h : @AWf ⟨⟨P, G, fn.ntmps⟩⟩ ⟨c⟩ ⟨fpost P fn.results.toList R⟩ ⟨fun t => args.getD t undefA⟩ H) : Does P G f args H R :=
  does_of he hf hb hn (AW.mono (awf_of h) fun e T' H' ⟨h1, h2⟩ => ⟨h1, by
    unfold altO at h2
    split at h2
    · rename_i r hr; exact ⟨r, hr, h2⟩
    · exact h2.elim⟩)

section
variable {X : Ctx} {Q : Post} {T : Nat → AV} {H : AHeap}
@[simp] theorem altO_some {α : Type} (a : α) (k : α → Prop) (y : Hid Prop) : @altO α (some a) ⟨k⟩ y = k a := Eq.trans rfl rfl
@[simp] theorem altO_none {α : Type} (k : Hid (α → Prop)) (y : Prop) : @altO α none k ⟨y⟩ = y := Eq.trans rfl rfl
@[simp] theorem condA_true (x : Unit → Prop) (y : Hid (Unit → Prop)) : @condA true ⟨x⟩ y = x () := Eq.trans rfl rfl
@[simp] theorem condA_false (x : Hid (Unit → Prop)) (y : Unit → Prop) : @condA false x ⟨y⟩ = y () := Eq.trans rfl rfl
@[simp] theorem condV_true (x : Unit → Prop) (y : Hid (Unit → Prop)) : @condV (some (.bool true)) ⟨x⟩ y = x () := Eq.trans rfl rfl
@[simp] theorem condV_false (x : Hid (Unit → Prop)) (y : Unit → Prop) : @condV (some (.bool false)) x ⟨y⟩ = y () := Eq.trans rfl rfl
@[simp] theorem awf_skip : @AWf ⟨X⟩ ⟨.skip⟩ ⟨Q⟩ ⟨T⟩ H = @PQ ⟨Q⟩ ⟨.normal⟩ ⟨T⟩ H := Eq.trans rfl rfl
@[simp] theorem awf_region {id : Nat} {l : List Oper} : @AWf ⟨X⟩ ⟨.region id l.toArray false⟩ ⟨Q⟩ ⟨T⟩ H = @ALf ⟨X⟩ ⟨l.toArray⟩ ⟨Q⟩ ⟨l⟩ ⟨T⟩ H := Eq.trans rfl rfl
@[simp] theorem awf_drawn {id : Nat} {ops : Array Oper} : @AWf ⟨X⟩ ⟨.region id ops true⟩ ⟨Q⟩ ⟨T⟩ H = @AWs ⟨X⟩ ⟨.region id ops true⟩ ⟨Q⟩ ⟨T⟩ H := Eq.trans rfl rfl
@[simp] theorem awf_loop {c : Code} : @AWf ⟨X⟩ ⟨.loop c⟩ ⟨Q⟩ ⟨T⟩ H = @AWs ⟨X⟩ ⟨.loop c⟩ ⟨Q⟩ ⟨T⟩ H := Eq.trans rfl rfl
@[simp] theorem awf_seq {a b : Code} : @AWf ⟨X⟩ ⟨.seq a b⟩ ⟨Q⟩ ⟨T⟩ H = @AWf ⟨X⟩ ⟨a⟩ ⟨QThen (fun T H => @AWf ⟨X⟩ ⟨b⟩ ⟨Q⟩ ⟨T⟩ H) Q⟩ ⟨T⟩ H := Eq.trans rfl rfl
@[simp] theorem awf_cond {c : Operand} {x y : Code} : @AWf ⟨X⟩ ⟨.cond c x y⟩ ⟨Q⟩ ⟨T⟩ H = @condV (aval X.G T c) ⟨fun _ => @AWf ⟨X⟩ ⟨x⟩ ⟨Q⟩ ⟨T⟩ H⟩ ⟨fun _ => @AWf ⟨X⟩ ⟨y⟩ ⟨Q⟩ ⟨T⟩ H⟩ := Eq.trans rfl rfl
@[simp] theorem awf_block {id : Nat} {c : Code} : @AWf ⟨X⟩ ⟨.block id c⟩ ⟨Q⟩ ⟨T⟩ H = @AWf ⟨X⟩ ⟨c⟩ ⟨QBlock id Q⟩ ⟨T⟩ H := Eq.trans rfl rfl
@[simp] theorem awf_exit {id : Nat} : @AWf ⟨X⟩ ⟨.exit id⟩ ⟨Q⟩ ⟨T⟩ H = @PQ ⟨Q⟩ ⟨.exit id⟩ ⟨T⟩ H := Eq.trans rfl rfl
@[simp] theorem awf_ret : @AWf ⟨X⟩ ⟨.ret⟩ ⟨Q⟩ ⟨T⟩ H = @PQ ⟨Q⟩ ⟨.ret⟩ ⟨T⟩ H := Eq.trans rfl rfl
@[simp] theorem alf_nil {ops : Hid (Array Oper)} : @ALf ⟨X⟩ ops ⟨Q⟩ ⟨[]⟩ ⟨T⟩ H = @PQ ⟨Q⟩ ⟨.normal⟩ ⟨T⟩ H := Eq.trans rfl rfl
@[simp] theorem alf_cons {ops : Array Oper} {o : Oper} {r : List Oper} : @ALf ⟨X⟩ ⟨ops⟩ ⟨Q⟩ ⟨o :: r⟩ ⟨T⟩ H = ((match o.dst with | some d => d < X.N | none => True) ∧
    @condA (awanted ops T o)
      ⟨fun _ => @altO _ (acallee (aval X.G T) o) ⟨fun fa => @DoesH X.P X.G fa.1 fa.2 H ⟨fun x H' => @ALf ⟨X⟩ ⟨ops⟩ ⟨Q⟩ ⟨r⟩ ⟨tput T o.dst x⟩ H'⟩⟩
        ⟨@altO _ (aop X.P (aval X.G T) H.get H.next o) ⟨fun ve => @ALf ⟨X⟩ ⟨ops⟩ ⟨Q⟩ ⟨r⟩ ⟨tput T o.dst ve.1⟩ (H.eff ve.2)⟩ ⟨False⟩⟩⟩
      ⟨fun _ => @ALf ⟨X⟩ ⟨ops⟩ ⟨Q⟩ ⟨r⟩ ⟨tput T o.dst undefA⟩ H⟩) := Eq.trans rfl rfl
@[simp] theorem pq_then_normal {K : (Nat → AV) → AHeap → Prop} : @PQ ⟨QThen K Q⟩ ⟨.normal⟩ ⟨T⟩ H = K T H := Eq.trans rfl rfl
@[simp] theorem pq_then_ret {K : (Nat → AV) → AHeap → Prop} : @PQ ⟨QThen K Q⟩ ⟨.ret⟩ ⟨T⟩ H = @PQ ⟨Q⟩ ⟨.ret⟩ ⟨T⟩ H := Eq.trans rfl rfl
@[simp] theorem pq_then_exit {K : (Nat → AV) → AHeap → Prop} {i : Nat} : @PQ ⟨QThen K Q⟩ ⟨.exit i⟩ ⟨T⟩ H = @PQ ⟨Q⟩ ⟨.exit i⟩ ⟨T⟩ H := Eq.trans rfl rfl
@[simp] theorem pq_block_normal {i : Nat} : @PQ ⟨QBlock i Q⟩ ⟨.normal⟩ ⟨T⟩ H = @PQ ⟨Q⟩ ⟨.normal⟩ ⟨T⟩ H := Eq.trans rfl rfl
@[simp] theorem pq_block_ret {i : Nat} : @PQ ⟨QBlock i Q⟩ ⟨.ret⟩ ⟨T⟩ H = @PQ ⟨Q⟩ ⟨.ret⟩ ⟨T⟩ H := Eq.trans rfl rfl
@[simp] theorem pq_block_exit {i j : Nat} : @PQ ⟨QBlock i Q⟩ ⟨.exit j⟩ ⟨T⟩ H = if j = i then @PQ ⟨Q⟩ ⟨.normal⟩ ⟨T⟩ H else @PQ ⟨Q⟩ ⟨.exit j⟩ ⟨T⟩ H := Eq.trans rfl rfl
@[simp] theorem pq_end {P : Program} {rs : List ResultVar} {R : AV → AHeap → Prop} {e : Exit} : @PQ ⟨fpost P rs R⟩ ⟨e⟩ ⟨T⟩ H = ((e = .normal ∨ e = .ret) ∧ @altO _ (ares P T H.get rs) ⟨fun r => R r H⟩ ⟨False⟩) := Eq.trans rfl rfl
end

end Go.Abs
