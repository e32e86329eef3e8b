/-
  A simplified meaning for Go code: what simp unfolds on a walk.
-/
import Derived.Test.YtcbiaeoladjecaaAbsY
import Derived.IntWalk
namespace Go.Abs
open Go

attribute [simp] awanted ayield acallee aop apure aval tput ofConst ofConst1 ofConsts abin aint2 ashift astr2 aeqIn aeqFields aun aconv aslice abounds abound afieldAddr afield aindexAddr aindex aextract alen acap amin amax abuild afill aplaces aagg apart' aread aat acut afirst alenOf abytes aalloc arep aeff aappend acopy aclear ares aresults aresult avals apairs aopt splice Region.isConst undefA isSeq

@[simp] theorem eff_same (H : AHeap) : H.eff .same = H := rfl
@[simp] theorem eff_put (H : AHeap) (i : Nat) (x : AObj) : H.eff (.put i x) = H.set i x := rfl
@[simp] theorem eff_new (H : AHeap) (x : AObj) : H.eff (.new x) = H.push x := rfl
@[simp] theorem eff_move (H : AHeap) (i : Nat) (x : AObj) : H.eff (.move i x) = (H.kill i).push x := rfl
@[simp] theorem scalar_bool (b : Bool) : (AV.bool b).scalar = true := rfl
@[simp] theorem scalar_int (k : IntKind) (n : Int) : (AV.int k n).scalar = true := rfl
@[simp] theorem scalar_str (s : List UInt8) : (AV.str s).scalar = true := rfl
@[simp] theorem scalar_nilptr : AV.nilptr.scalar = true := rfl
@[simp] theorem scalar_ptr (i o : Nat) : (AV.ptr i o).scalar = true := rfl
@[simp] theorem scalar_vptr (c : List AV) : (AV.vptr c).scalar = true := rfl
@[simp] theorem scalar_nilsl : AV.nilsl.scalar = true := rfl
@[simp] theorem scalar_sl (i o z l c : Nat) (b : Bool) : (AV.sl i o z l c b).scalar = true := rfl
@[simp] theorem scalar_vsl (c : List AV) (n : Nat) : (AV.vsl c n).scalar = true := rfl
@[simp] theorem scalar_nilmap : AV.nilmap.scalar = true := rfl
@[simp] theorem scalar_func (f : Fn) (a b : List AV) : (AV.func f a b).scalar = true := rfl
@[simp] theorem scalar_nilfunc : AV.nilfunc.scalar = true := rfl
@[simp] theorem scalar_iface (t : TypeId) (v : AV) : (AV.iface t v).scalar = true := rfl
@[simp] theorem scalar_niliface : AV.niliface.scalar = true := rfl
@[simp] theorem cells_agg (c : List AV) : (AV.agg c).cells = c := rfl
@[simp] theorem cells_bool (b : Bool) : (AV.bool b).cells = [.bool b] := rfl
@[simp] theorem cells_int (k : IntKind) (n : Int) : (AV.int k n).cells = [.int k n] := rfl
@[simp] theorem cells_str (s : List UInt8) : (AV.str s).cells = [.str s] := rfl
@[simp] theorem cells_nilptr : AV.nilptr.cells = [.nilptr] := rfl
@[simp] theorem cells_ptr (i o : Nat) : (AV.ptr i o).cells = [.ptr i o] := rfl
@[simp] theorem cells_vptr (c : List AV) : (AV.vptr c).cells = [.vptr c] := rfl
@[simp] theorem cells_nilsl : AV.nilsl.cells = [.nilsl] := rfl
@[simp] theorem cells_sl (i o z l c : Nat) (b : Bool) : (AV.sl i o z l c b).cells = [.sl i o z l c b] := rfl
@[simp] theorem cells_vsl (c : List AV) (n : Nat) : (AV.vsl c n).cells = [.vsl c n] := rfl
@[simp] theorem cells_nilmap : AV.nilmap.cells = [.nilmap] := rfl
@[simp] theorem cells_func (f : Fn) (a b : List AV) : (AV.func f a b).cells = [.func f a b] := rfl
@[simp] theorem cells_nilfunc : AV.nilfunc.cells = [.nilfunc] := rfl
@[simp] theorem cells_iface (t : TypeId) (v : AV) : (AV.iface t v).cells = [.iface t v] := rfl
@[simp] theorem cells_niliface : AV.niliface.cells = [.niliface] := rfl
@[simp] theorem cells_tuple (v : List AV) : (AV.tuple v).cells = [.tuple v] := rfl

theorem next_lt {H : AHeap} (hw : H.Wf) {i : Nat} {x : AObj} (h : H.get i = some x) : i < H.next := (hw i x h).1

@[simp] theorem push_set (H : AHeap) (x y : AObj) : (H.push x).set H.next y = H.push y := by
  refine AHeap.ext' rfl fun i => ?_
  simp only [AHeap.get_set, AHeap.get_push]
  split <;> rfl
@[simp] theorem set_set (H : AHeap) (i : Nat) (x y : AObj) : (H.set i x).set i y = H.set i y := AHeap.set_set H i x y

@[simp] theorem int_beq (a b : Int) : (a == b) = decide (a = b) := by
  rw [Bool.eq_iff_iff]; simp

end Go.Abs
