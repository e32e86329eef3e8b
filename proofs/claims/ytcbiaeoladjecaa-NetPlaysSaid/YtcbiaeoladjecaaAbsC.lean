/-
  A simplified meaning for Go code, third part: the operations that look at no memory.
-/
import Derived.Test.YtcbiaeoladjecaaAbsB
import Derived.Laws.StructEq
import Derived.Laws.Slices
import Derived.Laws.Strings2
import Derived.Laws.Build
namespace Go.Abs
open Go

theorem run_sizeOf' {P : Program} {t : TypeId} {i : TypeInfo} (h : P.info? t = some i) (w : World) : (sizeOf t).run P w = .ok i.size w := by
  simp [sizeOf, typeInfo, h]
theorem run_zero' {P : Program} {t : TypeId} {i : TypeInfo} {z : Value} (h : P.info? t = some i) (hz : i.zero = some z) (w : World) : (zeroValue t).run P w = .ok z w := by
  simp [zeroValue, typeInfo, h, hz]
theorem run_isAgg' {P : Program} {t : TypeId} {d : TypeDesc} (h : P.underlying t = some d) (w : World) :
    (isAgg t).run P w = .ok (match d with | .struct _ | .array _ _ => true | _ => false) w := by
  simp only [isAgg, Sem.run_bind, run_underlying h, Result.andThen_ok]
  cases d <;> rfl

def asize (P : Program) (t : TypeId) : Option Nat := (P.info? t).map (·.size)
def aagg (P : Program) (t : TypeId) : Option Bool := (P.underlying t).map fun | .struct _ | .array _ _ => true | _ => false

theorem run_asize {P : Program} {t : TypeId} {n : Nat} (h : asize P t = some n) (w : World) : (sizeOf t).run P w = .ok n w := by
  simp only [asize, Option.map_eq_some_iff] at h
  obtain ⟨i, hi, rfl⟩ := h
  exact run_sizeOf' hi w
theorem run_aagg {P : Program} {t : TypeId} {b : Bool} (h : aagg P t = some b) (w : World) : (isAgg t).run P w = .ok b w := by
  simp only [aagg, Option.map_eq_some_iff] at h
  obtain ⟨d, hd, rfl⟩ := h
  rw [run_isAgg' hd]
  cases d <;> rfl

def ofConst1 : Value → Option AV
  | .bool b => some (.bool b)
  | .int k n => some (.int k n)
  | .string s => some (.str s.data.toList)
  | .pointer none => some .nilptr
  | .slice none 0 0 => some .nilsl
  | .map none => some .nilmap
  | .nilFunc => some .nilfunc
  | .nilIface => some .niliface
  | _ => none

def ofConsts : List Value → Option (List AV)
  | [] => some []
  | v :: vs => match ofConst1 v, ofConsts vs with
    | some a, some as => some (a :: as)
    | _, _ => none

def ofConst : Value → Option AV
  | .agg cs => (ofConsts cs.toList).map .agg
  | .tuple cs => (ofConsts cs.toList).map .tuple
  | v => ofConst1 v

theorem ofConst1_rel (E : Env) {v : Value} {a : AV} (h : ofConst1 v = some a) : VRel E a v := by
  unfold ofConst1 at h
  split at h <;> first
    | (simp at h; done)
    | (simp at h; subst h; constructor; done)

theorem ofConsts_rel (E : Env) : ∀ {vs : List Value} {as : List AV}, ofConsts vs = some as → VRels E as vs
  | [], as, h => by simp [ofConsts] at h; subst h; exact .nil
  | v :: vs, as, h => by
    simp only [ofConsts] at h
    split at h
    · rename_i a as' h1 h2
      simp at h; subst h
      exact .cons (ofConst1_rel E h1) (ofConsts_rel E h2)
    · simp at h

theorem ofConst_rel (E : Env) {v : Value} {a : AV} (h : ofConst v = some a) : VRel E a v := by
  unfold ofConst at h
  split at h
  · simp only [Option.map_eq_some_iff] at h; obtain ⟨as, h1, rfl⟩ := h; exact .agg (ofConsts_rel E h1)
  · simp only [Option.map_eq_some_iff] at h; obtain ⟨as, h1, rfl⟩ := h; exact .tuple (ofConsts_rel E h1)
  · exact ofConst1_rel E h

def azero (P : Program) (t : TypeId) : Option AV := match P.info? t with
  | some i => match i.zero with
    | some z => ofConst z
    | none => none
  | none => none

theorem run_azero {P : Program} {t : TypeId} {a : AV} (E : Env) (h : azero P t = some a) : ∃ z, VRel E a z ∧ ∀ w, (zeroValue t).run P w = .ok z w := by
  unfold azero at h
  split at h
  · rename_i i hi
    split at h
    · rename_i z hz
      exact ⟨z, ofConst_rel E h, fun w => run_zero' hi hz w⟩
    · simp at h
  · simp at h

/-! ### integers -/

def aint2 (op : BinOp) (k : IntKind) (a b : Int) : Option AV := match op with
  | .add => some (.int k (k.wrap (a + b)))
  | .sub => some (.int k (k.wrap (a - b)))
  | .mul => some (.int k (k.wrap (a * b)))
  | .quo => if b = 0 then none else some (.int k (k.wrap (a.tdiv b)))
  | .rem => if b = 0 then none else some (.int k (a.tmod b))
  | .and => some (.int k (k.wrap ((BitVec.ofInt k.bits a &&& BitVec.ofInt k.bits b).toNat : Nat)))
  | .or => some (.int k (k.wrap ((BitVec.ofInt k.bits a ||| BitVec.ofInt k.bits b).toNat : Nat)))
  | .xor => some (.int k (k.wrap ((BitVec.ofInt k.bits a ^^^ BitVec.ofInt k.bits b).toNat : Nat)))
  | .andNot => some (.int k (k.wrap ((BitVec.ofInt k.bits a &&& ~~~ BitVec.ofInt k.bits b).toNat : Nat)))
  | .eql => some (.bool (a == b))
  | .neq => some (.bool (a != b))
  | .lss => some (.bool (decide (a < b)))
  | .leq => some (.bool (decide (a ≤ b)))
  | .gtr => some (.bool (decide (a > b)))
  | .geq => some (.bool (decide (a ≥ b)))
  | _ => none

def ashift (op : BinOp) (k : IntKind) (a b : Int) : Option AV :=
  if b < 0 then none else match op with
  | .shl => some (.int k (k.wrap (a * 2 ^ (min b.toNat k.bits))))
  | .shr => some (.int k (a.fdiv (2 ^ (min b.toNat k.bits))))
  | _ => none

theorem aint2_sound {P : Program} {E : Env} {op : BinOp} {k : IntKind} {a b : Int} {r : AV} (t : TypeId) (h : aint2 op k a b = some r) :
    ∃ v, VRel E r v ∧ ∀ w, (binOp op t (.int k a) (.int k b)).run P w = .ok v w := by
  cases op <;> simp only [aint2] at h <;> first
    | (simp at h; done)
    | (split at h
       · simp at h
       · rename_i hb
         simp only [Option.some.injEq] at h; subst h
         first
           | exact ⟨_, .int _ _, fun w => by simp [binOp_quo, Op.intDiv, hb]⟩
           | exact ⟨_, .int _ _, fun w => by simp [binOp_rem, Op.intDiv, hb]⟩)
    | (simp only [Option.some.injEq] at h; subst h
       first
         | exact ⟨_, .int _ _, fun w => by simp [binOp, Op.intArith, Op.intBits]; done⟩
         | exact ⟨_, .bool _, fun w => by simp [binOp, Op.intCmp]; done⟩)

theorem ashift_sound {P : Program} {E : Env} {op : BinOp} {k k' : IntKind} {a b : Int} {r : AV} (t : TypeId) (h : ashift op k a b = some r) :
    ∃ v, VRel E r v ∧ ∀ w, (binOp op t (.int k a) (.int k' b)).run P w = .ok v w := by
  unfold ashift at h
  split at h
  · simp at h
  · rename_i hb
    split at h <;> simp only [Option.some.injEq, reduceCtorEq] at h <;> subst h
    · exact ⟨_, .int _ _, fun w => by simp [binOp, Op.shift, hb]⟩
    · exact ⟨_, .int _ _, fun w => by simp [binOp, Op.shift, hb]⟩

/-! ### strings -/

def astr2 (op : BinOp) (a b : List UInt8) : Option AV := match op with
  | .add => if a.length + b.length ≤ 9223372036854775807 then some (.str (a ++ b)) else none
  | .eql => some (.bool (a == b))
  | .neq => some (.bool (!(a == b)))
  | .lss => some (.bool (Op.bytesLess a b))
  | .leq => some (.bool (Op.bytesLess a b || a == b))
  | .gtr => some (.bool (!(Op.bytesLess a b || a == b)))
  | .geq => some (.bool (!(Op.bytesLess a b)))
  | _ => none

theorem bytes_append (a b : List UInt8) : (ByteArray.mk a.toArray ++ ByteArray.mk b.toArray) = ByteArray.mk (a ++ b).toArray := by
  have h : ∀ x y : ByteArray, (x ++ y).data = x.data ++ y.data := fun x y => by simp
  have := h ⟨a.toArray⟩ ⟨b.toArray⟩
  cases hh : (ByteArray.mk a.toArray ++ ByteArray.mk b.toArray) with
  | mk d => rw [hh] at this; simp at this; subst this; simp

theorem astr2_sound {P : Program} {E : Env} {op : BinOp} {a b : List UInt8} {r : AV} (t : TypeId) (h : astr2 op a b = some r) :
    ∃ v, VRel E r v ∧ ∀ w, (binOp op t (.string ⟨a.toArray⟩) (.string ⟨b.toArray⟩)).run P w = .ok v w := by
  cases op <;> simp only [astr2] at h <;> first
    | (simp at h; done)
    | (split at h
       · rename_i hb
         simp only [Option.some.injEq] at h; subst h
         refine ⟨_, .str _, fun w => ?_⟩
         have hs : ∀ l : List UInt8, (ByteArray.mk l.toArray).size = l.length := fun l => by simp [ByteArray.size]
         simp only [binOp, Op.stringOp, hs]
         rw [if_neg (by rw [IntKind.max_i64]; omega)]
         simp only [Sem.run_pure, bytes_append]
       · simp at h)
    | (simp only [Option.some.injEq] at h; subst h
       exact ⟨_, .bool _, fun w => by simp [binOp, Op.stringOp, ByteArray.toList_mk]⟩)

/-! ### equality -/

def apart' (P : Program) (t : TypeId) (cs : List AV) (off : Nat) : Option AV :=
  match aagg P t, asize P t with
  | some true, some n => some (.agg ((cs.drop off).take n))
  | some false, some _ => cs[off]?
  | _, _ => none

theorem apart'_sound {P : Program} {E : Env} {t : TypeId} {cs : List AV} {vs : Array Value} {off : Nat} {r : AV} (h : apart' P t cs off = some r) (hv : VRels E cs vs.toList) :
    ∃ v, VRel E r v ∧ ∀ w, (part t vs off).run P w = .ok v w := by
  unfold apart' at h
  split at h
  · rename_i n ha hs
    simp only [Option.some.injEq] at h; subst h
    refine ⟨.agg (vs.extract off (off + n)), .agg ?_, fun w => ?_⟩
    · have e1 : (vs.extract off (off + n)).toList = (vs.toList.drop off).take n := by
        rw [Array.toList_extract, List.extract_eq_drop_take']
        try rw [← List.take_drop]
      rw [e1]; exact (hv.drop off).take n
    · simp [part, run_aagg ha, run_asize hs]
  · rename_i n ha hs
    obtain ⟨v, hv', hr⟩ := hv.get? h
    refine ⟨v, hr, fun w => ?_⟩
    simp only [part, Sem.run_bind, run_aagg ha, Result.andThen_ok]
    rw [Array.getElem?_toList] at hv'
    simp [hv']
  · simp at h

def aeqFields (P : Program) (eq : TypeId → AV → AV → Option Bool) (xs ys : List AV) : List Field → Option Bool
  | [] => some true
  | f :: fs => if f.name ≠ "_" then
      match apart' P f.type xs f.offset, apart' P f.type ys f.offset with
      | some a, some b => match eq f.type a b with
        | some true => aeqFields P eq xs ys fs
        | r => r
      | _, _ => none
    else aeqFields P eq xs ys fs

def aeqElems (P : Program) (eq : TypeId → AV → AV → Option Bool) (e : TypeId) (n : Nat) (xs ys : List AV) : Nat → Nat → Option Bool
  | 0, _ => some true
  | m + 1, i => match apart' P e xs (i * n), apart' P e ys (i * n) with
    | some a, some b => match eq e a b with
      | some true => aeqElems P eq e n xs ys m (i + 1)
      | r => r
    | _, _ => none

def aeqIn (P : Program) : Nat → TypeId → AV → AV → Option Bool
  | 0, _, _, _ => none
  | d + 1, t, x, y => match P.underlying t, x, y with
    | some .bool, .bool a, .bool b => some (a == b)
    | some (.int _), .int k a, .int k' b => if k = k' then some (a == b) else none
    | some .string, .str a, .str b => some (a == b)
    | some (.pointer _), .nilptr, .nilptr => some true
    | some (.pointer _), .nilptr, .ptr _ _ => some false
    | some (.pointer _), .nilptr, .vptr _ => some false
    | some (.pointer _), .ptr _ _, .nilptr => some false
    | some (.pointer _), .vptr _, .nilptr => some false
    | some (.slice _), .nilsl, .nilsl => some true
    | some (.slice _), .nilsl, .sl .. => some false
    | some (.slice _), .nilsl, .vsl .. => some false
    | some (.slice _), .sl .., .nilsl => some false
    | some (.slice _), .vsl .., .nilsl => some false
    | some (.map _ _), .nilmap, .nilmap => some true
    | some (.func _ _ _), .nilfunc, .nilfunc => some true
    | some (.func _ _ _), .nilfunc, .func .. => some false
    | some (.func _ _ _), .func .., .nilfunc => some false
    | some (.interface _), .niliface, .niliface => some true
    | some (.interface _), .niliface, .iface .. => some false
    | some (.interface _), .iface .., .niliface => some false
    | some (.interface _), .iface tx a, .iface ty b => if tx = ty then (match P.info? tx with
      | some i => if i.comparable then aeqIn P d tx a b else none
      | none => none) else some false
    | some (.struct fs), .agg xs, .agg ys => if P.stoodInHeld t then none else aeqFields P (aeqIn P d) xs ys fs.toList
    | some (.array len e), .agg xs, .agg ys => match asize P e with
      | some n => aeqElems P (aeqIn P d) e n xs ys len 0
      | none => none
    | _, _, _ => none

def EqSound (P : Program) (E : Env) (eq : TypeId → AV → AV → Option Bool) (d : Nat) : Prop :=
  ∀ t x y u v r, eq t x y = some r → VRel E x u → VRel E y v → ∀ w, (Op.equalIn d t u v).run P w = .ok r w

theorem aeqFields_sound {P : Program} {E : Env} {d : Nat} {eq : TypeId → AV → AV → Option Bool} (he : EqSound P E eq d) {xs ys : List AV} {us vs : Array Value} (hx : VRels E xs us.toList) (hy : VRels E ys vs.toList) :
    ∀ (fs : List Field) (r : Bool), aeqFields P eq xs ys fs = some r → ∀ w, (Op.eqFields d us vs fs).run P w = .ok r w
  | [], r, h, w => by simp [aeqFields] at h; subst h; simp [Op.eqFields]
  | f :: fs, r, h, w => by
    simp only [aeqFields] at h
    simp only [Op.eqFields]
    split at h
    · rename_i hn
      rw [if_pos hn]
      split at h
      · rename_i a b ha hb
        obtain ⟨u, hu, hur⟩ := apart'_sound ha hx
        obtain ⟨v, hv, hvr⟩ := apart'_sound hb hy
        simp only [Sem.run_bind, hur, hvr, Result.andThen_ok]
        split at h
        · rename_i e1
          simp only [he _ _ _ _ _ _ e1 hu hv w, Result.andThen_ok]
          simpa using aeqFields_sound he hx hy fs r h w
        · rename_i e1
          have h' := he _ _ _ _ _ _ h hu hv w
          rw [h']
          simp only [Result.andThen_ok]
          cases r
          · simp
          · exact absurd h e1
      · simp at h
    · rename_i hn
      rw [if_neg hn]
      exact aeqFields_sound he hx hy fs r h w

end Go.Abs
