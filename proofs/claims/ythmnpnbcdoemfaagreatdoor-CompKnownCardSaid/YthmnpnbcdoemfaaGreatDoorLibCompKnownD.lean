/-
  Own library of this claim, part 4: texts one behind the other (AbsZ, Facts, LxW1, AbsV, LxW2, LxW3, LxW4, LxW5, LxW6, LxW7, LxW8, SyP1, SyP2, SyP3, SyP4).
-/
import Derived.IntWalk
import Derived.Test.YthmnpnbcdoemfaaGreatDoorProg
import Derived.KernelRfl
import Derived.Test.YthmnpnbcdoemfaaGreatDoorLibCompKnownC

/-
  A simplified meaning for Go code: what simp unfolds on a walk.
-/


namespace Go.Abs
open Go

attribute [simp] awanted ayield acallee aop aallocC alookup afind asame keyed atup amaplen amapput apure aval tput ofConst ofConst1 ofConsts abin aint2 ashift astr2 aeqIn aeqFields aun aconv aslice abounds abound afieldAddr afield aindexAddr aindex aextract alen acap amin amax abuild afill aplaces aagg apart' aread aat acut afirst alenOf abytes aalloc arep aeff aappend acopy aclear ares aresults aresult avals apairs aopt splice Region.isConst undefA isSeq

@[simp] theorem eff_same (H : AHeap) : H.eff .same = H := rfl
@[simp] theorem eff_put (H : AHeap) (i : Nat) (x : AObj) : H.eff (.put i x) = H.set i x := rfl
@[simp] theorem eff_new (H : AHeap) (x : AObj) : H.eff (.new x) = H.push x := rfl
@[simp] theorem eff_move (H : AHeap) (i : Nat) (x : AObj) : H.eff (.move i x) = (H.kill i).push x := rfl
@[simp] theorem scalar_bool (b : Bool) : (AV.bool b).scalar = true := rfl
@[simp] theorem scalar_int (k : IntKind) (n : Int) : (AV.int k n).scalar = true := rfl
@[simp] theorem scalar_str (s : List UInt8) : (AV.str s).scalar = true := rfl
@[simp] theorem scalar_nilptr : AV.nilptr.scalar = true := rfl
@[simp] theorem scalar_ptr (i o : Nat) : (AV.ptr i o).scalar = true := rfl
@[simp] theorem scalar_vptr (c : List AV) : (AV.vptr c).scalar = true := rfl
@[simp] theorem scalar_nilsl : AV.nilsl.scalar = true := rfl
@[simp] theorem scalar_sl (i o z l c : Nat) (b : Bool) : (AV.sl i o z l c b).scalar = true := rfl
@[simp] theorem scalar_vsl (c : List AV) (n : Nat) : (AV.vsl c n).scalar = true := rfl
@[simp] theorem scalar_nilmap : AV.nilmap.scalar = true := rfl
@[simp] theorem scalar_func (f : Fn) (a b : List AV) : (AV.func f a b).scalar = true := rfl
@[simp] theorem scalar_nilfunc : AV.nilfunc.scalar = true := rfl
@[simp] theorem scalar_iface (t : TypeId) (v : AV) : (AV.iface t v).scalar = true := rfl
@[simp] theorem scalar_niliface : AV.niliface.scalar = true := rfl
@[simp] theorem cells_agg (c : List AV) : (AV.agg c).cells = c := rfl
@[simp] theorem cells_bool (b : Bool) : (AV.bool b).cells = [.bool b] := rfl
@[simp] theorem cells_int (k : IntKind) (n : Int) : (AV.int k n).cells = [.int k n] := rfl
@[simp] theorem cells_str (s : List UInt8) : (AV.str s).cells = [.str s] := rfl
@[simp] theorem cells_nilptr : AV.nilptr.cells = [.nilptr] := rfl
@[simp] theorem cells_ptr (i o : Nat) : (AV.ptr i o).cells = [.ptr i o] := rfl
@[simp] theorem cells_vptr (c : List AV) : (AV.vptr c).cells = [.vptr c] := rfl
@[simp] theorem cells_nilsl : AV.nilsl.cells = [.nilsl] := rfl
@[simp] theorem cells_sl (i o z l c : Nat) (b : Bool) : (AV.sl i o z l c b).cells = [.sl i o z l c b] := rfl
@[simp] theorem cells_vsl (c : List AV) (n : Nat) : (AV.vsl c n).cells = [.vsl c n] := rfl
@[simp] theorem cells_nilmap : AV.nilmap.cells = [.nilmap] := rfl
@[simp] theorem cells_func (f : Fn) (a b : List AV) : (AV.func f a b).cells = [.func f a b] := rfl
@[simp] theorem cells_nilfunc : AV.nilfunc.cells = [.nilfunc] := rfl
@[simp] theorem cells_iface (t : TypeId) (v : AV) : (AV.iface t v).cells = [.iface t v] := rfl
@[simp] theorem cells_niliface : AV.niliface.cells = [.niliface] := rfl
@[simp] theorem cells_tuple (v : List AV) : (AV.tuple v).cells = [.tuple v] := rfl

theorem next_lt {H : AHeap} (hw : H.Wf) {i : Nat} {x : AObj} (h : H.get i = some x) : i < H.next := (hw i x h).1

@[simp] theorem push_set (H : AHeap) (x y : AObj) : (H.push x).set H.next y = H.push y := by
  refine AHeap.ext' rfl fun i => ?_
  simp only [AHeap.get_set, AHeap.get_push]
  split <;> rfl
@[simp] theorem set_set (H : AHeap) (i : Nat) (x y : AObj) : (H.set i x).set i y = H.set i y := AHeap.set_set H i x y

@[simp] theorem int_beq (a b : Int) : (a == b) = decide (a = b) := by
  rw [Bool.eq_iff_iff]; simp

end Go.Abs

/-
  Facts on the types of this program, by program (facts.py).
-/



namespace Go.Proofs
open Go Go.Abs
@[simp] theorem Tryz.asize0 : asize Tryz.prog 0 = some 1 := by kernel_rfl
@[simp] theorem Tryz.info0 : Tryz.prog.info? 0 = some Tryz.t0 := by kernel_rfl
@[simp] theorem Tryz.tsize0 : Tryz.t0.size = 1 := by kernel_rfl
@[simp] theorem Tryz.tbytes0 : Tryz.t0.bytes = 0 := by kernel_rfl
@[simp] theorem Tryz.builder0 : builderTy Tryz.prog 0 = false := by kernel_rfl
@[simp] theorem Tryz.azero0 : azero Tryz.prog 0 = some (.tuple []) := by kernel_rfl
@[simp] theorem Tryz.asize1 : asize Tryz.prog 1 = some 1 := by kernel_rfl
@[simp] theorem Tryz.info1 : Tryz.prog.info? 1 = some Tryz.t1 := by kernel_rfl
@[simp] theorem Tryz.tsize1 : Tryz.t1.size = 1 := by kernel_rfl
@[simp] theorem Tryz.tbytes1 : Tryz.t1.bytes = 8 := by kernel_rfl
@[simp] theorem Tryz.builder1 : builderTy Tryz.prog 1 = false := by kernel_rfl
@[simp] theorem Tryz.azero1 : azero Tryz.prog 1 = some (.nilfunc) := by kernel_rfl
@[simp] theorem Tryz.asize2 : asize Tryz.prog 2 = some 1 := by kernel_rfl
@[simp] theorem Tryz.info2 : Tryz.prog.info? 2 = some Tryz.t2 := by kernel_rfl
@[simp] theorem Tryz.tsize2 : Tryz.t2.size = 1 := by kernel_rfl
@[simp] theorem Tryz.tbytes2 : Tryz.t2.bytes = 8 := by kernel_rfl
@[simp] theorem Tryz.builder2 : builderTy Tryz.prog 2 = false := by kernel_rfl
@[simp] theorem Tryz.azero2 : azero Tryz.prog 2 = some (.int .i64 (0)) := by kernel_rfl
@[simp] theorem Tryz.asize3 : asize Tryz.prog 3 = some 1 := by kernel_rfl
@[simp] theorem Tryz.info3 : Tryz.prog.info? 3 = some Tryz.t3 := by kernel_rfl
@[simp] theorem Tryz.tsize3 : Tryz.t3.size = 1 := by kernel_rfl
@[simp] theorem Tryz.tbytes3 : Tryz.t3.bytes = 8 := by kernel_rfl
@[simp] theorem Tryz.builder3 : builderTy Tryz.prog 3 = false := by kernel_rfl
@[simp] theorem Tryz.azero3 : azero Tryz.prog 3 = some (.int .i64 (0)) := by kernel_rfl
@[simp] theorem Tryz.asize4 : asize Tryz.prog 4 = some 1 := by kernel_rfl
@[simp] theorem Tryz.info4 : Tryz.prog.info? 4 = some Tryz.t4 := by kernel_rfl
@[simp] theorem Tryz.tsize4 : Tryz.t4.size = 1 := by kernel_rfl
@[simp] theorem Tryz.tbytes4 : Tryz.t4.bytes = 1 := by kernel_rfl
@[simp] theorem Tryz.builder4 : builderTy Tryz.prog 4 = false := by kernel_rfl
@[simp] theorem Tryz.azero4 : azero Tryz.prog 4 = some (.bool false) := by kernel_rfl
@[simp] theorem Tryz.asize5 : asize Tryz.prog 5 = some 1 := by kernel_rfl
@[simp] theorem Tryz.info5 : Tryz.prog.info? 5 = some Tryz.t5 := by kernel_rfl
@[simp] theorem Tryz.tsize5 : Tryz.t5.size = 1 := by kernel_rfl
@[simp] theorem Tryz.tbytes5 : Tryz.t5.bytes = 1 := by kernel_rfl
@[simp] theorem Tryz.builder5 : builderTy Tryz.prog 5 = false := by kernel_rfl
@[simp] theorem Tryz.azero5 : azero Tryz.prog 5 = some (.int .u8 (0)) := by kernel_rfl
@[simp] theorem Tryz.asize6 : asize Tryz.prog 6 = some 1 := by kernel_rfl
@[simp] theorem Tryz.info6 : Tryz.prog.info? 6 = some Tryz.t6 := by kernel_rfl
@[simp] theorem Tryz.tsize6 : Tryz.t6.size = 1 := by kernel_rfl
@[simp] theorem Tryz.tbytes6 : Tryz.t6.bytes = 1 := by kernel_rfl
@[simp] theorem Tryz.builder6 : builderTy Tryz.prog 6 = false := by kernel_rfl
@[simp] theorem Tryz.azero6 : azero Tryz.prog 6 = some (.int .u8 (0)) := by kernel_rfl
@[simp] theorem Tryz.asize7 : asize Tryz.prog 7 = some 4 := by kernel_rfl
@[simp] theorem Tryz.info7 : Tryz.prog.info? 7 = some Tryz.t7 := by kernel_rfl
@[simp] theorem Tryz.tsize7 : Tryz.t7.size = 4 := by kernel_rfl
@[simp] theorem Tryz.tbytes7 : Tryz.t7.bytes = 24 := by kernel_rfl
@[simp] theorem Tryz.builder7 : builderTy Tryz.prog 7 = false := by kernel_rfl
@[simp] theorem Tryz.azero7 : azero Tryz.prog 7 = some (.agg [.int .i64 (0), .int .i64 (0), .bool false, .int .u8 (0)]) := by kernel_rfl
@[simp] theorem Tryz.asize8 : asize Tryz.prog 8 = some 4 := by kernel_rfl
@[simp] theorem Tryz.info8 : Tryz.prog.info? 8 = some Tryz.t8 := by kernel_rfl
@[simp] theorem Tryz.tsize8 : Tryz.t8.size = 4 := by kernel_rfl
@[simp] theorem Tryz.tbytes8 : Tryz.t8.bytes = 24 := by kernel_rfl
@[simp] theorem Tryz.builder8 : builderTy Tryz.prog 8 = false := by kernel_rfl
@[simp] theorem Tryz.azero8 : azero Tryz.prog 8 = some (.agg [.int .i64 (0), .int .i64 (0), .bool false, .int .u8 (0)]) := by kernel_rfl
@[simp] theorem Tryz.asize9 : asize Tryz.prog 9 = some 1 := by kernel_rfl
@[simp] theorem Tryz.info9 : Tryz.prog.info? 9 = some Tryz.t9 := by kernel_rfl
@[simp] theorem Tryz.tsize9 : Tryz.t9.size = 1 := by kernel_rfl
@[simp] theorem Tryz.tbytes9 : Tryz.t9.bytes = 16 := by kernel_rfl
@[simp] theorem Tryz.builder9 : builderTy Tryz.prog 9 = false := by kernel_rfl
@[simp] theorem Tryz.azero9 : azero Tryz.prog 9 = some (.str []) := by kernel_rfl
@[simp] theorem Tryz.asize10 : asize Tryz.prog 10 = some 1 := by kernel_rfl
@[simp] theorem Tryz.info10 : Tryz.prog.info? 10 = some Tryz.t10 := by kernel_rfl
@[simp] theorem Tryz.tsize10 : Tryz.t10.size = 1 := by kernel_rfl
@[simp] theorem Tryz.tbytes10 : Tryz.t10.bytes = 16 := by kernel_rfl
@[simp] theorem Tryz.builder10 : builderTy Tryz.prog 10 = false := by kernel_rfl
@[simp] theorem Tryz.azero10 : azero Tryz.prog 10 = some (.str []) := by kernel_rfl
@[simp] theorem Tryz.asize11 : asize Tryz.prog 11 = some 1 := by kernel_rfl
@[simp] theorem Tryz.info11 : Tryz.prog.info? 11 = some Tryz.t11 := by kernel_rfl
@[simp] theorem Tryz.tsize11 : Tryz.t11.size = 1 := by kernel_rfl
@[simp] theorem Tryz.tbytes11 : Tryz.t11.bytes = 16 := by kernel_rfl
@[simp] theorem Tryz.builder11 : builderTy Tryz.prog 11 = false := by kernel_rfl
@[simp] theorem Tryz.azero11 : azero Tryz.prog 11 = some (.str []) := by kernel_rfl
@[simp] theorem Tryz.asize12 : asize Tryz.prog 12 = some 1 := by kernel_rfl
@[simp] theorem Tryz.info12 : Tryz.prog.info? 12 = some Tryz.t12 := by kernel_rfl
@[simp] theorem Tryz.tsize12 : Tryz.t12.size = 1 := by kernel_rfl
@[simp] theorem Tryz.tbytes12 : Tryz.t12.bytes = 8 := by kernel_rfl
@[simp] theorem Tryz.builder12 : builderTy Tryz.prog 12 = false := by kernel_rfl
@[simp] theorem Tryz.azero12 : azero Tryz.prog 12 = some (.int .u64 (0)) := by kernel_rfl
@[simp] theorem Tryz.asize13 : asize Tryz.prog 13 = some 2 := by kernel_rfl
@[simp] theorem Tryz.info13 : Tryz.prog.info? 13 = some Tryz.t13 := by kernel_rfl
@[simp] theorem Tryz.tsize13 : Tryz.t13.size = 2 := by kernel_rfl
@[simp] theorem Tryz.tbytes13 : Tryz.t13.bytes = 24 := by kernel_rfl
@[simp] theorem Tryz.builder13 : builderTy Tryz.prog 13 = false := by kernel_rfl
@[simp] theorem Tryz.azero13 : azero Tryz.prog 13 = some (.agg [.str [], .int .u64 (0)]) := by kernel_rfl
@[simp] theorem Tryz.asize14 : asize Tryz.prog 14 = some 2 := by kernel_rfl
@[simp] theorem Tryz.info14 : Tryz.prog.info? 14 = some Tryz.t14 := by kernel_rfl
@[simp] theorem Tryz.tsize14 : Tryz.t14.size = 2 := by kernel_rfl
@[simp] theorem Tryz.tbytes14 : Tryz.t14.bytes = 24 := by kernel_rfl
@[simp] theorem Tryz.builder14 : builderTy Tryz.prog 14 = false := by kernel_rfl
@[simp] theorem Tryz.azero14 : azero Tryz.prog 14 = some (.agg [.str [], .int .u64 (0)]) := by kernel_rfl
@[simp] theorem Tryz.asize15 : asize Tryz.prog 15 = some 1 := by kernel_rfl
@[simp] theorem Tryz.info15 : Tryz.prog.info? 15 = some Tryz.t15 := by kernel_rfl
@[simp] theorem Tryz.tsize15 : Tryz.t15.size = 1 := by kernel_rfl
@[simp] theorem Tryz.tbytes15 : Tryz.t15.bytes = 8 := by kernel_rfl
@[simp] theorem Tryz.builder15 : builderTy Tryz.prog 15 = false := by kernel_rfl
@[simp] theorem Tryz.azero15 : azero Tryz.prog 15 = some (.nilptr) := by kernel_rfl
@[simp] theorem Tryz.asize16 : asize Tryz.prog 16 = some 1 := by kernel_rfl
@[simp] theorem Tryz.info16 : Tryz.prog.info? 16 = some Tryz.t16 := by kernel_rfl
@[simp] theorem Tryz.tsize16 : Tryz.t16.size = 1 := by kernel_rfl
@[simp] theorem Tryz.tbytes16 : Tryz.t16.bytes = 8 := by kernel_rfl
@[simp] theorem Tryz.builder16 : builderTy Tryz.prog 16 = false := by kernel_rfl
@[simp] theorem Tryz.azero16 : azero Tryz.prog 16 = some (.nilptr) := by kernel_rfl
@[simp] theorem Tryz.asize17 : asize Tryz.prog 17 = some 1 := by kernel_rfl
@[simp] theorem Tryz.info17 : Tryz.prog.info? 17 = some Tryz.t17 := by kernel_rfl
@[simp] theorem Tryz.tsize17 : Tryz.t17.size = 1 := by kernel_rfl
@[simp] theorem Tryz.tbytes17 : Tryz.t17.bytes = 8 := by kernel_rfl
@[simp] theorem Tryz.builder17 : builderTy Tryz.prog 17 = false := by kernel_rfl
@[simp] theorem Tryz.azero17 : azero Tryz.prog 17 = some (.nilptr) := by kernel_rfl
@[simp] theorem Tryz.asize18 : asize Tryz.prog 18 = some 1 := by kernel_rfl
@[simp] theorem Tryz.info18 : Tryz.prog.info? 18 = some Tryz.t18 := by kernel_rfl
@[simp] theorem Tryz.tsize18 : Tryz.t18.size = 1 := by kernel_rfl
@[simp] theorem Tryz.tbytes18 : Tryz.t18.bytes = 8 := by kernel_rfl
@[simp] theorem Tryz.builder18 : builderTy Tryz.prog 18 = false := by kernel_rfl
@[simp] theorem Tryz.azero18 : azero Tryz.prog 18 = some (.agg [.nilptr]) := by kernel_rfl
@[simp] theorem Tryz.asize19 : asize Tryz.prog 19 = some 1 := by kernel_rfl
@[simp] theorem Tryz.info19 : Tryz.prog.info? 19 = some Tryz.t19 := by kernel_rfl
@[simp] theorem Tryz.tsize19 : Tryz.t19.size = 1 := by kernel_rfl
@[simp] theorem Tryz.tbytes19 : Tryz.t19.bytes = 8 := by kernel_rfl
@[simp] theorem Tryz.builder19 : builderTy Tryz.prog 19 = false := by kernel_rfl
@[simp] theorem Tryz.azero19 : azero Tryz.prog 19 = some (.agg [.nilptr]) := by kernel_rfl
@[simp] theorem Tryz.asize20 : asize Tryz.prog 20 = some 1 := by kernel_rfl
@[simp] theorem Tryz.info20 : Tryz.prog.info? 20 = some Tryz.t20 := by kernel_rfl
@[simp] theorem Tryz.tsize20 : Tryz.t20.size = 1 := by kernel_rfl
@[simp] theorem Tryz.tbytes20 : Tryz.t20.bytes = 16 := by kernel_rfl
@[simp] theorem Tryz.builder20 : builderTy Tryz.prog 20 = false := by kernel_rfl
@[simp] theorem Tryz.azero20 : azero Tryz.prog 20 = some (.niliface) := by kernel_rfl
@[simp] theorem Tryz.asize21 : asize Tryz.prog 21 = some 1 := by kernel_rfl
@[simp] theorem Tryz.info21 : Tryz.prog.info? 21 = some Tryz.t21 := by kernel_rfl
@[simp] theorem Tryz.tsize21 : Tryz.t21.size = 1 := by kernel_rfl
@[simp] theorem Tryz.tbytes21 : Tryz.t21.bytes = 4 := by kernel_rfl
@[simp] theorem Tryz.builder21 : builderTy Tryz.prog 21 = false := by kernel_rfl
@[simp] theorem Tryz.azero21 : azero Tryz.prog 21 = some (.int .i32 (0)) := by kernel_rfl
@[simp] theorem Tryz.asize22 : asize Tryz.prog 22 = some 1 := by kernel_rfl
@[simp] theorem Tryz.info22 : Tryz.prog.info? 22 = some Tryz.t22 := by kernel_rfl
@[simp] theorem Tryz.tsize22 : Tryz.t22.size = 1 := by kernel_rfl
@[simp] theorem Tryz.tbytes22 : Tryz.t22.bytes = 8 := by kernel_rfl
@[simp] theorem Tryz.builder22 : builderTy Tryz.prog 22 = false := by kernel_rfl
@[simp] theorem Tryz.azero22 : azero Tryz.prog 22 = some (.nilfunc) := by kernel_rfl
@[simp] theorem Tryz.asize23 : asize Tryz.prog 23 = some 1 := by kernel_rfl
@[simp] theorem Tryz.info23 : Tryz.prog.info? 23 = some Tryz.t23 := by kernel_rfl
@[simp] theorem Tryz.tsize23 : Tryz.t23.size = 1 := by kernel_rfl
@[simp] theorem Tryz.tbytes23 : Tryz.t23.bytes = 24 := by kernel_rfl
@[simp] theorem Tryz.builder23 : builderTy Tryz.prog 23 = false := by kernel_rfl
@[simp] theorem Tryz.azero23 : azero Tryz.prog 23 = some (.nilsl) := by kernel_rfl
@[simp] theorem Tryz.asize24 : asize Tryz.prog 24 = some 1 := by kernel_rfl
@[simp] theorem Tryz.info24 : Tryz.prog.info? 24 = some Tryz.t24 := by kernel_rfl
@[simp] theorem Tryz.tsize24 : Tryz.t24.size = 1 := by kernel_rfl
@[simp] theorem Tryz.tbytes24 : Tryz.t24.bytes = 24 := by kernel_rfl
@[simp] theorem Tryz.builder24 : builderTy Tryz.prog 24 = false := by kernel_rfl
@[simp] theorem Tryz.azero24 : azero Tryz.prog 24 = some (.nilsl) := by kernel_rfl
@[simp] theorem Tryz.asize25 : asize Tryz.prog 25 = some 1 := by kernel_rfl
@[simp] theorem Tryz.info25 : Tryz.prog.info? 25 = some Tryz.t25 := by kernel_rfl
@[simp] theorem Tryz.tsize25 : Tryz.t25.size = 1 := by kernel_rfl
@[simp] theorem Tryz.tbytes25 : Tryz.t25.bytes = 8 := by kernel_rfl
@[simp] theorem Tryz.builder25 : builderTy Tryz.prog 25 = false := by kernel_rfl
@[simp] theorem Tryz.azero25 : azero Tryz.prog 25 = some (.int .i64 (0)) := by kernel_rfl
@[simp] theorem Tryz.asize26 : asize Tryz.prog 26 = some 2 := by kernel_rfl
@[simp] theorem Tryz.info26 : Tryz.prog.info? 26 = some Tryz.t26 := by kernel_rfl
@[simp] theorem Tryz.tsize26 : Tryz.t26.size = 2 := by kernel_rfl
@[simp] theorem Tryz.tbytes26 : Tryz.t26.bytes = 16 := by kernel_rfl
@[simp] theorem Tryz.builder26 : builderTy Tryz.prog 26 = false := by kernel_rfl
@[simp] theorem Tryz.azero26 : azero Tryz.prog 26 = some (.agg [.int .i64 (0), .int .i64 (0)]) := by kernel_rfl
@[simp] theorem Tryz.asize27 : asize Tryz.prog 27 = some 2 := by kernel_rfl
@[simp] theorem Tryz.info27 : Tryz.prog.info? 27 = some Tryz.t27 := by kernel_rfl
@[simp] theorem Tryz.tsize27 : Tryz.t27.size = 2 := by kernel_rfl
@[simp] theorem Tryz.tbytes27 : Tryz.t27.bytes = 16 := by kernel_rfl
@[simp] theorem Tryz.builder27 : builderTy Tryz.prog 27 = false := by kernel_rfl
@[simp] theorem Tryz.azero27 : azero Tryz.prog 27 = some (.agg [.int .i64 (0), .int .i64 (0)]) := by kernel_rfl
@[simp] theorem Tryz.asize28 : asize Tryz.prog 28 = some 1 := by kernel_rfl
@[simp] theorem Tryz.info28 : Tryz.prog.info? 28 = some Tryz.t28 := by kernel_rfl
@[simp] theorem Tryz.tsize28 : Tryz.t28.size = 1 := by kernel_rfl
@[simp] theorem Tryz.tbytes28 : Tryz.t28.bytes = 0 := by kernel_rfl
@[simp] theorem Tryz.builder28 : builderTy Tryz.prog 28 = false := by kernel_rfl
@[simp] theorem Tryz.asize29 : asize Tryz.prog 29 = some 1 := by kernel_rfl
@[simp] theorem Tryz.info29 : Tryz.prog.info? 29 = some Tryz.t29 := by kernel_rfl
@[simp] theorem Tryz.tsize29 : Tryz.t29.size = 1 := by kernel_rfl
@[simp] theorem Tryz.tbytes29 : Tryz.t29.bytes = 8 := by kernel_rfl
@[simp] theorem Tryz.builder29 : builderTy Tryz.prog 29 = false := by kernel_rfl
@[simp] theorem Tryz.azero29 : azero Tryz.prog 29 = some (.nilfunc) := by kernel_rfl
@[simp] theorem Tryz.asize30 : asize Tryz.prog 30 = some 1 := by kernel_rfl
@[simp] theorem Tryz.info30 : Tryz.prog.info? 30 = some Tryz.t30 := by kernel_rfl
@[simp] theorem Tryz.tsize30 : Tryz.t30.size = 1 := by kernel_rfl
@[simp] theorem Tryz.tbytes30 : Tryz.t30.bytes = 24 := by kernel_rfl
@[simp] theorem Tryz.builder30 : builderTy Tryz.prog 30 = false := by kernel_rfl
@[simp] theorem Tryz.azero30 : azero Tryz.prog 30 = some (.nilsl) := by kernel_rfl
@[simp] theorem Tryz.asize31 : asize Tryz.prog 31 = some 1 := by kernel_rfl
@[simp] theorem Tryz.info31 : Tryz.prog.info? 31 = some Tryz.t31 := by kernel_rfl
@[simp] theorem Tryz.tsize31 : Tryz.t31.size = 1 := by kernel_rfl
@[simp] theorem Tryz.tbytes31 : Tryz.t31.bytes = 24 := by kernel_rfl
@[simp] theorem Tryz.builder31 : builderTy Tryz.prog 31 = false := by kernel_rfl
@[simp] theorem Tryz.azero31 : azero Tryz.prog 31 = some (.nilsl) := by kernel_rfl
@[simp] theorem Tryz.asize32 : asize Tryz.prog 32 = some 6 := by kernel_rfl
@[simp] theorem Tryz.info32 : Tryz.prog.info? 32 = some Tryz.t32 := by kernel_rfl
@[simp] theorem Tryz.tsize32 : Tryz.t32.size = 6 := by kernel_rfl
@[simp] theorem Tryz.tbytes32 : Tryz.t32.bytes = 120 := by kernel_rfl
@[simp] theorem Tryz.builder32 : builderTy Tryz.prog 32 = false := by kernel_rfl
@[simp] theorem Tryz.azero32 : azero Tryz.prog 32 = some (.agg [.str [], .nilsl, .nilsl, .nilsl, .nilsl, .int .i64 (0)]) := by kernel_rfl
@[simp] theorem Tryz.asize33 : asize Tryz.prog 33 = some 6 := by kernel_rfl
@[simp] theorem Tryz.info33 : Tryz.prog.info? 33 = some Tryz.t33 := by kernel_rfl
@[simp] theorem Tryz.tsize33 : Tryz.t33.size = 6 := by kernel_rfl
@[simp] theorem Tryz.tbytes33 : Tryz.t33.bytes = 120 := by kernel_rfl
@[simp] theorem Tryz.builder33 : builderTy Tryz.prog 33 = false := by kernel_rfl
@[simp] theorem Tryz.azero33 : azero Tryz.prog 33 = some (.agg [.str [], .nilsl, .nilsl, .nilsl, .nilsl, .int .i64 (0)]) := by kernel_rfl
@[simp] theorem Tryz.asize34 : asize Tryz.prog 34 = some 1 := by kernel_rfl
@[simp] theorem Tryz.info34 : Tryz.prog.info? 34 = some Tryz.t34 := by kernel_rfl
@[simp] theorem Tryz.tsize34 : Tryz.t34.size = 1 := by kernel_rfl
@[simp] theorem Tryz.tbytes34 : Tryz.t34.bytes = 8 := by kernel_rfl
@[simp] theorem Tryz.builder34 : builderTy Tryz.prog 34 = false := by kernel_rfl
@[simp] theorem Tryz.azero34 : azero Tryz.prog 34 = some (.nilfunc) := by kernel_rfl
@[simp] theorem Tryz.asize35 : asize Tryz.prog 35 = some 1 := by kernel_rfl
@[simp] theorem Tryz.info35 : Tryz.prog.info? 35 = some Tryz.t35 := by kernel_rfl
@[simp] theorem Tryz.tsize35 : Tryz.t35.size = 1 := by kernel_rfl
@[simp] theorem Tryz.tbytes35 : Tryz.t35.bytes = 8 := by kernel_rfl
@[simp] theorem Tryz.builder35 : builderTy Tryz.prog 35 = false := by kernel_rfl
@[simp] theorem Tryz.azero35 : azero Tryz.prog 35 = some (.nilfunc) := by kernel_rfl
@[simp] theorem Tryz.asize36 : asize Tryz.prog 36 = some 1 := by kernel_rfl
@[simp] theorem Tryz.info36 : Tryz.prog.info? 36 = some Tryz.t36 := by kernel_rfl
@[simp] theorem Tryz.tsize36 : Tryz.t36.size = 1 := by kernel_rfl
@[simp] theorem Tryz.tbytes36 : Tryz.t36.bytes = 24 := by kernel_rfl
@[simp] theorem Tryz.builder36 : builderTy Tryz.prog 36 = false := by kernel_rfl
@[simp] theorem Tryz.azero36 : azero Tryz.prog 36 = some (.nilsl) := by kernel_rfl
@[simp] theorem Tryz.asize37 : asize Tryz.prog 37 = some 1 := by kernel_rfl
@[simp] theorem Tryz.info37 : Tryz.prog.info? 37 = some Tryz.t37 := by kernel_rfl
@[simp] theorem Tryz.tsize37 : Tryz.t37.size = 1 := by kernel_rfl
@[simp] theorem Tryz.tbytes37 : Tryz.t37.bytes = 24 := by kernel_rfl
@[simp] theorem Tryz.builder37 : builderTy Tryz.prog 37 = false := by kernel_rfl
@[simp] theorem Tryz.azero37 : azero Tryz.prog 37 = some (.nilsl) := by kernel_rfl
@[simp] theorem Tryz.asize38 : asize Tryz.prog 38 = some 1 := by kernel_rfl
@[simp] theorem Tryz.info38 : Tryz.prog.info? 38 = some Tryz.t38 := by kernel_rfl
@[simp] theorem Tryz.tsize38 : Tryz.t38.size = 1 := by kernel_rfl
@[simp] theorem Tryz.tbytes38 : Tryz.t38.bytes = 24 := by kernel_rfl
@[simp] theorem Tryz.builder38 : builderTy Tryz.prog 38 = false := by kernel_rfl
@[simp] theorem Tryz.azero38 : azero Tryz.prog 38 = some (.nilsl) := by kernel_rfl
@[simp] theorem Tryz.asize39 : asize Tryz.prog 39 = some 6 := by kernel_rfl
@[simp] theorem Tryz.info39 : Tryz.prog.info? 39 = some Tryz.t39 := by kernel_rfl
@[simp] theorem Tryz.tsize39 : Tryz.t39.size = 6 := by kernel_rfl
@[simp] theorem Tryz.tbytes39 : Tryz.t39.bytes = 144 := by kernel_rfl
@[simp] theorem Tryz.builder39 : builderTy Tryz.prog 39 = false := by kernel_rfl
@[simp] theorem Tryz.azero39 : azero Tryz.prog 39 = some (.agg [.nilsl, .nilsl, .nilsl, .nilsl, .nilsl, .nilsl]) := by kernel_rfl
@[simp] theorem Tryz.asize40 : asize Tryz.prog 40 = some 6 := by kernel_rfl
@[simp] theorem Tryz.info40 : Tryz.prog.info? 40 = some Tryz.t40 := by kernel_rfl
@[simp] theorem Tryz.tsize40 : Tryz.t40.size = 6 := by kernel_rfl
@[simp] theorem Tryz.tbytes40 : Tryz.t40.bytes = 144 := by kernel_rfl
@[simp] theorem Tryz.builder40 : builderTy Tryz.prog 40 = false := by kernel_rfl
@[simp] theorem Tryz.azero40 : azero Tryz.prog 40 = some (.agg [.nilsl, .nilsl, .nilsl, .nilsl, .nilsl, .nilsl]) := by kernel_rfl
@[simp] theorem Tryz.asize41 : asize Tryz.prog 41 = some 1 := by kernel_rfl
@[simp] theorem Tryz.info41 : Tryz.prog.info? 41 = some Tryz.t41 := by kernel_rfl
@[simp] theorem Tryz.tsize41 : Tryz.t41.size = 1 := by kernel_rfl
@[simp] theorem Tryz.tbytes41 : Tryz.t41.bytes = 0 := by kernel_rfl
@[simp] theorem Tryz.builder41 : builderTy Tryz.prog 41 = false := by kernel_rfl
@[simp] theorem Tryz.asize42 : asize Tryz.prog 42 = some 1 := by kernel_rfl
@[simp] theorem Tryz.info42 : Tryz.prog.info? 42 = some Tryz.t42 := by kernel_rfl
@[simp] theorem Tryz.tsize42 : Tryz.t42.size = 1 := by kernel_rfl
@[simp] theorem Tryz.tbytes42 : Tryz.t42.bytes = 8 := by kernel_rfl
@[simp] theorem Tryz.builder42 : builderTy Tryz.prog 42 = false := by kernel_rfl
@[simp] theorem Tryz.azero42 : azero Tryz.prog 42 = some (.nilfunc) := by kernel_rfl
@[simp] theorem Tryz.asize43 : asize Tryz.prog 43 = some 1 := by kernel_rfl
@[simp] theorem Tryz.info43 : Tryz.prog.info? 43 = some Tryz.t43 := by kernel_rfl
@[simp] theorem Tryz.tsize43 : Tryz.t43.size = 1 := by kernel_rfl
@[simp] theorem Tryz.tbytes43 : Tryz.t43.bytes = 0 := by kernel_rfl
@[simp] theorem Tryz.builder43 : builderTy Tryz.prog 43 = false := by kernel_rfl
@[simp] theorem Tryz.asize44 : asize Tryz.prog 44 = some 1 := by kernel_rfl
@[simp] theorem Tryz.info44 : Tryz.prog.info? 44 = some Tryz.t44 := by kernel_rfl
@[simp] theorem Tryz.tsize44 : Tryz.t44.size = 1 := by kernel_rfl
@[simp] theorem Tryz.tbytes44 : Tryz.t44.bytes = 8 := by kernel_rfl
@[simp] theorem Tryz.builder44 : builderTy Tryz.prog 44 = false := by kernel_rfl
@[simp] theorem Tryz.azero44 : azero Tryz.prog 44 = some (.nilfunc) := by kernel_rfl
@[simp] theorem Tryz.asize45 : asize Tryz.prog 45 = some 1 := by kernel_rfl
@[simp] theorem Tryz.info45 : Tryz.prog.info? 45 = some Tryz.t45 := by kernel_rfl
@[simp] theorem Tryz.tsize45 : Tryz.t45.size = 1 := by kernel_rfl
@[simp] theorem Tryz.tbytes45 : Tryz.t45.bytes = 8 := by kernel_rfl
@[simp] theorem Tryz.builder45 : builderTy Tryz.prog 45 = false := by kernel_rfl
@[simp] theorem Tryz.azero45 : azero Tryz.prog 45 = some (.nilfunc) := by kernel_rfl
@[simp] theorem Tryz.asize46 : asize Tryz.prog 46 = some 1 := by kernel_rfl
@[simp] theorem Tryz.info46 : Tryz.prog.info? 46 = some Tryz.t46 := by kernel_rfl
@[simp] theorem Tryz.tsize46 : Tryz.t46.size = 1 := by kernel_rfl
@[simp] theorem Tryz.tbytes46 : Tryz.t46.bytes = 24 := by kernel_rfl
@[simp] theorem Tryz.builder46 : builderTy Tryz.prog 46 = false := by kernel_rfl
@[simp] theorem Tryz.azero46 : azero Tryz.prog 46 = some (.nilsl) := by kernel_rfl
@[simp] theorem Tryz.asize47 : asize Tryz.prog 47 = some 5 := by kernel_rfl
@[simp] theorem Tryz.info47 : Tryz.prog.info? 47 = some Tryz.t47 := by kernel_rfl
@[simp] theorem Tryz.tsize47 : Tryz.t47.size = 5 := by kernel_rfl
@[simp] theorem Tryz.tbytes47 : Tryz.t47.bytes = 72 := by kernel_rfl
@[simp] theorem Tryz.builder47 : builderTy Tryz.prog 47 = false := by kernel_rfl
@[simp] theorem Tryz.azero47 : azero Tryz.prog 47 = some (.agg [.str [], .str [], .int .i64 (0), .int .i64 (0), .nilsl]) := by kernel_rfl
@[simp] theorem Tryz.asize48 : asize Tryz.prog 48 = some 5 := by kernel_rfl
@[simp] theorem Tryz.info48 : Tryz.prog.info? 48 = some Tryz.t48 := by kernel_rfl
@[simp] theorem Tryz.tsize48 : Tryz.t48.size = 5 := by kernel_rfl
@[simp] theorem Tryz.tbytes48 : Tryz.t48.bytes = 72 := by kernel_rfl
@[simp] theorem Tryz.builder48 : builderTy Tryz.prog 48 = false := by kernel_rfl
@[simp] theorem Tryz.azero48 : azero Tryz.prog 48 = some (.agg [.str [], .str [], .int .i64 (0), .int .i64 (0), .nilsl]) := by kernel_rfl
@[simp] theorem Tryz.asize49 : asize Tryz.prog 49 = some 1 := by kernel_rfl
@[simp] theorem Tryz.info49 : Tryz.prog.info? 49 = some Tryz.t49 := by kernel_rfl
@[simp] theorem Tryz.tsize49 : Tryz.t49.size = 1 := by kernel_rfl
@[simp] theorem Tryz.tbytes49 : Tryz.t49.bytes = 8 := by kernel_rfl
@[simp] theorem Tryz.builder49 : builderTy Tryz.prog 49 = false := by kernel_rfl
@[simp] theorem Tryz.azero49 : azero Tryz.prog 49 = some (.nilfunc) := by kernel_rfl
@[simp] theorem Tryz.asize50 : asize Tryz.prog 50 = some 7 := by kernel_rfl
@[simp] theorem Tryz.info50 : Tryz.prog.info? 50 = some Tryz.t50 := by kernel_rfl
@[simp] theorem Tryz.tsize50 : Tryz.t50.size = 7 := by kernel_rfl
@[simp] theorem Tryz.tbytes50 : Tryz.t50.bytes = 96 := by kernel_rfl
@[simp] theorem Tryz.builder50 : builderTy Tryz.prog 50 = false := by kernel_rfl
@[simp] theorem Tryz.azero50 : azero Tryz.prog 50 = some (.agg [.str [], .str [], .str [], .int .i64 (0), .int .i64 (0), .nilsl, .int .i64 (0)]) := by kernel_rfl
@[simp] theorem Tryz.asize51 : asize Tryz.prog 51 = some 7 := by kernel_rfl
@[simp] theorem Tryz.info51 : Tryz.prog.info? 51 = some Tryz.t51 := by kernel_rfl
@[simp] theorem Tryz.tsize51 : Tryz.t51.size = 7 := by kernel_rfl
@[simp] theorem Tryz.tbytes51 : Tryz.t51.bytes = 96 := by kernel_rfl
@[simp] theorem Tryz.builder51 : builderTy Tryz.prog 51 = false := by kernel_rfl
@[simp] theorem Tryz.azero51 : azero Tryz.prog 51 = some (.agg [.str [], .str [], .str [], .int .i64 (0), .int .i64 (0), .nilsl, .int .i64 (0)]) := by kernel_rfl
@[simp] theorem Tryz.asize52 : asize Tryz.prog 52 = some 1 := by kernel_rfl
@[simp] theorem Tryz.info52 : Tryz.prog.info? 52 = some Tryz.t52 := by kernel_rfl
@[simp] theorem Tryz.tsize52 : Tryz.t52.size = 1 := by kernel_rfl
@[simp] theorem Tryz.tbytes52 : Tryz.t52.bytes = 8 := by kernel_rfl
@[simp] theorem Tryz.builder52 : builderTy Tryz.prog 52 = false := by kernel_rfl
@[simp] theorem Tryz.azero52 : azero Tryz.prog 52 = some (.nilptr) := by kernel_rfl
@[simp] theorem Tryz.asize53 : asize Tryz.prog 53 = some 1 := by kernel_rfl
@[simp] theorem Tryz.info53 : Tryz.prog.info? 53 = some Tryz.t53 := by kernel_rfl
@[simp] theorem Tryz.tsize53 : Tryz.t53.size = 1 := by kernel_rfl
@[simp] theorem Tryz.tbytes53 : Tryz.t53.bytes = 0 := by kernel_rfl
@[simp] theorem Tryz.builder53 : builderTy Tryz.prog 53 = false := by kernel_rfl
@[simp] theorem Tryz.azero53 : azero Tryz.prog 53 = some (.tuple [.nilptr, .int .i64 (0)]) := by kernel_rfl
@[simp] theorem Tryz.asize54 : asize Tryz.prog 54 = some 1 := by kernel_rfl
@[simp] theorem Tryz.info54 : Tryz.prog.info? 54 = some Tryz.t54 := by kernel_rfl
@[simp] theorem Tryz.tsize54 : Tryz.t54.size = 1 := by kernel_rfl
@[simp] theorem Tryz.tbytes54 : Tryz.t54.bytes = 8 := by kernel_rfl
@[simp] theorem Tryz.builder54 : builderTy Tryz.prog 54 = false := by kernel_rfl
@[simp] theorem Tryz.azero54 : azero Tryz.prog 54 = some (.nilfunc) := by kernel_rfl
@[simp] theorem Tryz.asize55 : asize Tryz.prog 55 = some 1 := by kernel_rfl
@[simp] theorem Tryz.info55 : Tryz.prog.info? 55 = some Tryz.t55 := by kernel_rfl
@[simp] theorem Tryz.tsize55 : Tryz.t55.size = 1 := by kernel_rfl
@[simp] theorem Tryz.tbytes55 : Tryz.t55.bytes = 8 := by kernel_rfl
@[simp] theorem Tryz.builder55 : builderTy Tryz.prog 55 = false := by kernel_rfl
@[simp] theorem Tryz.azero55 : azero Tryz.prog 55 = some (.nilfunc) := by kernel_rfl
@[simp] theorem Tryz.asize56 : asize Tryz.prog 56 = some 1 := by kernel_rfl
@[simp] theorem Tryz.info56 : Tryz.prog.info? 56 = some Tryz.t56 := by kernel_rfl
@[simp] theorem Tryz.tsize56 : Tryz.t56.size = 1 := by kernel_rfl
@[simp] theorem Tryz.tbytes56 : Tryz.t56.bytes = 24 := by kernel_rfl
@[simp] theorem Tryz.builder56 : builderTy Tryz.prog 56 = false := by kernel_rfl
@[simp] theorem Tryz.azero56 : azero Tryz.prog 56 = some (.nilsl) := by kernel_rfl
@[simp] theorem Tryz.asize57 : asize Tryz.prog 57 = some 1 := by kernel_rfl
@[simp] theorem Tryz.info57 : Tryz.prog.info? 57 = some Tryz.t57 := by kernel_rfl
@[simp] theorem Tryz.tsize57 : Tryz.t57.size = 1 := by kernel_rfl
@[simp] theorem Tryz.tbytes57 : Tryz.t57.bytes = 0 := by kernel_rfl
@[simp] theorem Tryz.builder57 : builderTy Tryz.prog 57 = false := by kernel_rfl
@[simp] theorem Tryz.azero57 : azero Tryz.prog 57 = some (.tuple [.nilsl, .int .i64 (0)]) := by kernel_rfl
@[simp] theorem Tryz.asize58 : asize Tryz.prog 58 = some 1 := by kernel_rfl
@[simp] theorem Tryz.info58 : Tryz.prog.info? 58 = some Tryz.t58 := by kernel_rfl
@[simp] theorem Tryz.tsize58 : Tryz.t58.size = 1 := by kernel_rfl
@[simp] theorem Tryz.tbytes58 : Tryz.t58.bytes = 8 := by kernel_rfl
@[simp] theorem Tryz.builder58 : builderTy Tryz.prog 58 = false := by kernel_rfl
@[simp] theorem Tryz.azero58 : azero Tryz.prog 58 = some (.nilfunc) := by kernel_rfl
@[simp] theorem Tryz.asize59 : asize Tryz.prog 59 = some 1 := by kernel_rfl
@[simp] theorem Tryz.info59 : Tryz.prog.info? 59 = some Tryz.t59 := by kernel_rfl
@[simp] theorem Tryz.tsize59 : Tryz.t59.size = 1 := by kernel_rfl
@[simp] theorem Tryz.tbytes59 : Tryz.t59.bytes = 8 := by kernel_rfl
@[simp] theorem Tryz.builder59 : builderTy Tryz.prog 59 = false := by kernel_rfl
@[simp] theorem Tryz.azero59 : azero Tryz.prog 59 = some (.nilfunc) := by kernel_rfl
@[simp] theorem Tryz.asize60 : asize Tryz.prog 60 = some 1 := by kernel_rfl
@[simp] theorem Tryz.info60 : Tryz.prog.info? 60 = some Tryz.t60 := by kernel_rfl
@[simp] theorem Tryz.tsize60 : Tryz.t60.size = 1 := by kernel_rfl
@[simp] theorem Tryz.tbytes60 : Tryz.t60.bytes = 0 := by kernel_rfl
@[simp] theorem Tryz.builder60 : builderTy Tryz.prog 60 = false := by kernel_rfl
@[simp] theorem Tryz.asize61 : asize Tryz.prog 61 = some 1 := by kernel_rfl
@[simp] theorem Tryz.info61 : Tryz.prog.info? 61 = some Tryz.t61 := by kernel_rfl
@[simp] theorem Tryz.tsize61 : Tryz.t61.size = 1 := by kernel_rfl
@[simp] theorem Tryz.tbytes61 : Tryz.t61.bytes = 8 := by kernel_rfl
@[simp] theorem Tryz.builder61 : builderTy Tryz.prog 61 = false := by kernel_rfl
@[simp] theorem Tryz.azero61 : azero Tryz.prog 61 = some (.nilfunc) := by kernel_rfl
@[simp] theorem Tryz.asize62 : asize Tryz.prog 62 = some 1 := by kernel_rfl
@[simp] theorem Tryz.info62 : Tryz.prog.info? 62 = some Tryz.t62 := by kernel_rfl
@[simp] theorem Tryz.tsize62 : Tryz.t62.size = 1 := by kernel_rfl
@[simp] theorem Tryz.tbytes62 : Tryz.t62.bytes = 0 := by kernel_rfl
@[simp] theorem Tryz.builder62 : builderTy Tryz.prog 62 = false := by kernel_rfl
@[simp] theorem Tryz.asize63 : asize Tryz.prog 63 = some 1 := by kernel_rfl
@[simp] theorem Tryz.info63 : Tryz.prog.info? 63 = some Tryz.t63 := by kernel_rfl
@[simp] theorem Tryz.tsize63 : Tryz.t63.size = 1 := by kernel_rfl
@[simp] theorem Tryz.tbytes63 : Tryz.t63.bytes = 8 := by kernel_rfl
@[simp] theorem Tryz.builder63 : builderTy Tryz.prog 63 = false := by kernel_rfl
@[simp] theorem Tryz.azero63 : azero Tryz.prog 63 = some (.nilfunc) := by kernel_rfl
@[simp] theorem Tryz.asize64 : asize Tryz.prog 64 = some 1 := by kernel_rfl
@[simp] theorem Tryz.info64 : Tryz.prog.info? 64 = some Tryz.t64 := by kernel_rfl
@[simp] theorem Tryz.tsize64 : Tryz.t64.size = 1 := by kernel_rfl
@[simp] theorem Tryz.tbytes64 : Tryz.t64.bytes = 24 := by kernel_rfl
@[simp] theorem Tryz.builder64 : builderTy Tryz.prog 64 = false := by kernel_rfl
@[simp] theorem Tryz.azero64 : azero Tryz.prog 64 = some (.nilsl) := by kernel_rfl
@[simp] theorem Tryz.asize65 : asize Tryz.prog 65 = some 1 := by kernel_rfl
@[simp] theorem Tryz.info65 : Tryz.prog.info? 65 = some Tryz.t65 := by kernel_rfl
@[simp] theorem Tryz.tsize65 : Tryz.t65.size = 1 := by kernel_rfl
@[simp] theorem Tryz.tbytes65 : Tryz.t65.bytes = 0 := by kernel_rfl
@[simp] theorem Tryz.builder65 : builderTy Tryz.prog 65 = false := by kernel_rfl
@[simp] theorem Tryz.asize66 : asize Tryz.prog 66 = some 1 := by kernel_rfl
@[simp] theorem Tryz.info66 : Tryz.prog.info? 66 = some Tryz.t66 := by kernel_rfl
@[simp] theorem Tryz.tsize66 : Tryz.t66.size = 1 := by kernel_rfl
@[simp] theorem Tryz.tbytes66 : Tryz.t66.bytes = 8 := by kernel_rfl
@[simp] theorem Tryz.builder66 : builderTy Tryz.prog 66 = false := by kernel_rfl
@[simp] theorem Tryz.azero66 : azero Tryz.prog 66 = some (.nilfunc) := by kernel_rfl
@[simp] theorem Tryz.asize67 : asize Tryz.prog 67 = some 1 := by kernel_rfl
@[simp] theorem Tryz.info67 : Tryz.prog.info? 67 = some Tryz.t67 := by kernel_rfl
@[simp] theorem Tryz.tsize67 : Tryz.t67.size = 1 := by kernel_rfl
@[simp] theorem Tryz.tbytes67 : Tryz.t67.bytes = 8 := by kernel_rfl
@[simp] theorem Tryz.builder67 : builderTy Tryz.prog 67 = false := by kernel_rfl
@[simp] theorem Tryz.azero67 : azero Tryz.prog 67 = some (.nilptr) := by kernel_rfl
@[simp] theorem Tryz.asize68 : asize Tryz.prog 68 = some 6 := by kernel_rfl
@[simp] theorem Tryz.info68 : Tryz.prog.info? 68 = some Tryz.t68 := by kernel_rfl
@[simp] theorem Tryz.tsize68 : Tryz.t68.size = 6 := by kernel_rfl
@[simp] theorem Tryz.tbytes68 : Tryz.t68.bytes = 64 := by kernel_rfl
@[simp] theorem Tryz.builder68 : builderTy Tryz.prog 68 = false := by kernel_rfl
@[simp] theorem Tryz.azero68 : azero Tryz.prog 68 = some (.agg [.nilsl, .int .i64 (0), .int .i64 (0), .int .i64 (0), .int .i64 (0), .int .i64 (0)]) := by kernel_rfl
@[simp] theorem Tryz.asize69 : asize Tryz.prog 69 = some 6 := by kernel_rfl
@[simp] theorem Tryz.info69 : Tryz.prog.info? 69 = some Tryz.t69 := by kernel_rfl
@[simp] theorem Tryz.tsize69 : Tryz.t69.size = 6 := by kernel_rfl
@[simp] theorem Tryz.tbytes69 : Tryz.t69.bytes = 64 := by kernel_rfl
@[simp] theorem Tryz.builder69 : builderTy Tryz.prog 69 = false := by kernel_rfl
@[simp] theorem Tryz.azero69 : azero Tryz.prog 69 = some (.agg [.nilsl, .int .i64 (0), .int .i64 (0), .int .i64 (0), .int .i64 (0), .int .i64 (0)]) := by kernel_rfl
@[simp] theorem Tryz.asize70 : asize Tryz.prog 70 = some 4 := by kernel_rfl
@[simp] theorem Tryz.info70 : Tryz.prog.info? 70 = some Tryz.t70 := by kernel_rfl
@[simp] theorem Tryz.tsize70 : Tryz.t70.size = 4 := by kernel_rfl
@[simp] theorem Tryz.tbytes70 : Tryz.t70.bytes = 40 := by kernel_rfl
@[simp] theorem Tryz.builder70 : builderTy Tryz.prog 70 = false := by kernel_rfl
@[simp] theorem Tryz.azero70 : azero Tryz.prog 70 = some (.agg [.int .i64 (0), .str [], .int .i64 (0), .int .i64 (0)]) := by kernel_rfl
@[simp] theorem Tryz.asize71 : asize Tryz.prog 71 = some 4 := by kernel_rfl
@[simp] theorem Tryz.info71 : Tryz.prog.info? 71 = some Tryz.t71 := by kernel_rfl
@[simp] theorem Tryz.tsize71 : Tryz.t71.size = 4 := by kernel_rfl
@[simp] theorem Tryz.tbytes71 : Tryz.t71.bytes = 40 := by kernel_rfl
@[simp] theorem Tryz.builder71 : builderTy Tryz.prog 71 = false := by kernel_rfl
@[simp] theorem Tryz.azero71 : azero Tryz.prog 71 = some (.agg [.int .i64 (0), .str [], .int .i64 (0), .int .i64 (0)]) := by kernel_rfl
@[simp] theorem Tryz.asize72 : asize Tryz.prog 72 = some 1 := by kernel_rfl
@[simp] theorem Tryz.info72 : Tryz.prog.info? 72 = some Tryz.t72 := by kernel_rfl
@[simp] theorem Tryz.tsize72 : Tryz.t72.size = 1 := by kernel_rfl
@[simp] theorem Tryz.tbytes72 : Tryz.t72.bytes = 8 := by kernel_rfl
@[simp] theorem Tryz.builder72 : builderTy Tryz.prog 72 = false := by kernel_rfl
@[simp] theorem Tryz.azero72 : azero Tryz.prog 72 = some (.nilfunc) := by kernel_rfl
@[simp] theorem Tryz.asize73 : asize Tryz.prog 73 = some 1 := by kernel_rfl
@[simp] theorem Tryz.info73 : Tryz.prog.info? 73 = some Tryz.t73 := by kernel_rfl
@[simp] theorem Tryz.tsize73 : Tryz.t73.size = 1 := by kernel_rfl
@[simp] theorem Tryz.tbytes73 : Tryz.t73.bytes = 8 := by kernel_rfl
@[simp] theorem Tryz.builder73 : builderTy Tryz.prog 73 = false := by kernel_rfl
@[simp] theorem Tryz.azero73 : azero Tryz.prog 73 = some (.nilfunc) := by kernel_rfl
@[simp] theorem Tryz.asize74 : asize Tryz.prog 74 = some 1 := by kernel_rfl
@[simp] theorem Tryz.info74 : Tryz.prog.info? 74 = some Tryz.t74 := by kernel_rfl
@[simp] theorem Tryz.tsize74 : Tryz.t74.size = 1 := by kernel_rfl
@[simp] theorem Tryz.tbytes74 : Tryz.t74.bytes = 8 := by kernel_rfl
@[simp] theorem Tryz.builder74 : builderTy Tryz.prog 74 = false := by kernel_rfl
@[simp] theorem Tryz.azero74 : azero Tryz.prog 74 = some (.nilfunc) := by kernel_rfl
@[simp] theorem Tryz.asize75 : asize Tryz.prog 75 = some 1 := by kernel_rfl
@[simp] theorem Tryz.info75 : Tryz.prog.info? 75 = some Tryz.t75 := by kernel_rfl
@[simp] theorem Tryz.tsize75 : Tryz.t75.size = 1 := by kernel_rfl
@[simp] theorem Tryz.tbytes75 : Tryz.t75.bytes = 8 := by kernel_rfl
@[simp] theorem Tryz.builder75 : builderTy Tryz.prog 75 = false := by kernel_rfl
@[simp] theorem Tryz.azero75 : azero Tryz.prog 75 = some (.nilfunc) := by kernel_rfl
@[simp] theorem Tryz.asize76 : asize Tryz.prog 76 = some 2 := by kernel_rfl
@[simp] theorem Tryz.info76 : Tryz.prog.info? 76 = some Tryz.t76 := by kernel_rfl
@[simp] theorem Tryz.tsize76 : Tryz.t76.size = 2 := by kernel_rfl
@[simp] theorem Tryz.tbytes76 : Tryz.t76.bytes = 16 := by kernel_rfl
@[simp] theorem Tryz.builder76 : builderTy Tryz.prog 76 = false := by kernel_rfl
@[simp] theorem Tryz.azero76 : azero Tryz.prog 76 = some (.agg [.int .i64 (0), .int .i64 (0)]) := by kernel_rfl
@[simp] theorem Tryz.asize77 : asize Tryz.prog 77 = some 2 := by kernel_rfl
@[simp] theorem Tryz.info77 : Tryz.prog.info? 77 = some Tryz.t77 := by kernel_rfl
@[simp] theorem Tryz.tsize77 : Tryz.t77.size = 2 := by kernel_rfl
@[simp] theorem Tryz.tbytes77 : Tryz.t77.bytes = 16 := by kernel_rfl
@[simp] theorem Tryz.builder77 : builderTy Tryz.prog 77 = false := by kernel_rfl
@[simp] theorem Tryz.azero77 : azero Tryz.prog 77 = some (.agg [.int .i64 (0), .int .i64 (0)]) := by kernel_rfl
@[simp] theorem Tryz.asize78 : asize Tryz.prog 78 = some 1 := by kernel_rfl
@[simp] theorem Tryz.info78 : Tryz.prog.info? 78 = some Tryz.t78 := by kernel_rfl
@[simp] theorem Tryz.tsize78 : Tryz.t78.size = 1 := by kernel_rfl
@[simp] theorem Tryz.tbytes78 : Tryz.t78.bytes = 0 := by kernel_rfl
@[simp] theorem Tryz.builder78 : builderTy Tryz.prog 78 = false := by kernel_rfl
@[simp] theorem Tryz.asize79 : asize Tryz.prog 79 = some 1 := by kernel_rfl
@[simp] theorem Tryz.info79 : Tryz.prog.info? 79 = some Tryz.t79 := by kernel_rfl
@[simp] theorem Tryz.tsize79 : Tryz.t79.size = 1 := by kernel_rfl
@[simp] theorem Tryz.tbytes79 : Tryz.t79.bytes = 8 := by kernel_rfl
@[simp] theorem Tryz.builder79 : builderTy Tryz.prog 79 = false := by kernel_rfl
@[simp] theorem Tryz.azero79 : azero Tryz.prog 79 = some (.nilfunc) := by kernel_rfl
@[simp] theorem Tryz.asize80 : asize Tryz.prog 80 = some 1 := by kernel_rfl
@[simp] theorem Tryz.info80 : Tryz.prog.info? 80 = some Tryz.t80 := by kernel_rfl
@[simp] theorem Tryz.tsize80 : Tryz.t80.size = 1 := by kernel_rfl
@[simp] theorem Tryz.tbytes80 : Tryz.t80.bytes = 8 := by kernel_rfl
@[simp] theorem Tryz.builder80 : builderTy Tryz.prog 80 = false := by kernel_rfl
@[simp] theorem Tryz.azero80 : azero Tryz.prog 80 = some (.nilfunc) := by kernel_rfl
@[simp] theorem Tryz.asize81 : asize Tryz.prog 81 = some 8 := by kernel_rfl
@[simp] theorem Tryz.info81 : Tryz.prog.info? 81 = some Tryz.t81 := by kernel_rfl
@[simp] theorem Tryz.tsize81 : Tryz.t81.size = 8 := by kernel_rfl
@[simp] theorem Tryz.tbytes81 : Tryz.t81.bytes = 176 := by kernel_rfl
@[simp] theorem Tryz.builder81 : builderTy Tryz.prog 81 = false := by kernel_rfl
@[simp] theorem Tryz.azero81 : azero Tryz.prog 81 = some (.agg [.nilsl, .nilsl, .nilsl, .nilsl, .nilsl, .nilsl, .nilsl, .int .i64 (0)]) := by kernel_rfl
@[simp] theorem Tryz.asize82 : asize Tryz.prog 82 = some 8 := by kernel_rfl
@[simp] theorem Tryz.info82 : Tryz.prog.info? 82 = some Tryz.t82 := by kernel_rfl
@[simp] theorem Tryz.tsize82 : Tryz.t82.size = 8 := by kernel_rfl
@[simp] theorem Tryz.tbytes82 : Tryz.t82.bytes = 176 := by kernel_rfl
@[simp] theorem Tryz.builder82 : builderTy Tryz.prog 82 = false := by kernel_rfl
@[simp] theorem Tryz.azero82 : azero Tryz.prog 82 = some (.agg [.nilsl, .nilsl, .nilsl, .nilsl, .nilsl, .nilsl, .nilsl, .int .i64 (0)]) := by kernel_rfl
@[simp] theorem Tryz.asize83 : asize Tryz.prog 83 = some 1 := by kernel_rfl
@[simp] theorem Tryz.info83 : Tryz.prog.info? 83 = some Tryz.t83 := by kernel_rfl
@[simp] theorem Tryz.tsize83 : Tryz.t83.size = 1 := by kernel_rfl
@[simp] theorem Tryz.tbytes83 : Tryz.t83.bytes = 24 := by kernel_rfl
@[simp] theorem Tryz.builder83 : builderTy Tryz.prog 83 = false := by kernel_rfl
@[simp] theorem Tryz.azero83 : azero Tryz.prog 83 = some (.nilsl) := by kernel_rfl
@[simp] theorem Tryz.asize84 : asize Tryz.prog 84 = some 1 := by kernel_rfl
@[simp] theorem Tryz.info84 : Tryz.prog.info? 84 = some Tryz.t84 := by kernel_rfl
@[simp] theorem Tryz.tsize84 : Tryz.t84.size = 1 := by kernel_rfl
@[simp] theorem Tryz.tbytes84 : Tryz.t84.bytes = 8 := by kernel_rfl
@[simp] theorem Tryz.builder84 : builderTy Tryz.prog 84 = false := by kernel_rfl
@[simp] theorem Tryz.azero84 : azero Tryz.prog 84 = some (.nilfunc) := by kernel_rfl
@[simp] theorem Tryz.asize85 : asize Tryz.prog 85 = some 1 := by kernel_rfl
@[simp] theorem Tryz.info85 : Tryz.prog.info? 85 = some Tryz.t85 := by kernel_rfl
@[simp] theorem Tryz.tsize85 : Tryz.t85.size = 1 := by kernel_rfl
@[simp] theorem Tryz.tbytes85 : Tryz.t85.bytes = 8 := by kernel_rfl
@[simp] theorem Tryz.builder85 : builderTy Tryz.prog 85 = false := by kernel_rfl
@[simp] theorem Tryz.azero85 : azero Tryz.prog 85 = some (.int .i64 (0)) := by kernel_rfl
@[simp] theorem Tryz.asize86 : asize Tryz.prog 86 = some 1 := by kernel_rfl
@[simp] theorem Tryz.info86 : Tryz.prog.info? 86 = some Tryz.t86 := by kernel_rfl
@[simp] theorem Tryz.tsize86 : Tryz.t86.size = 1 := by kernel_rfl
@[simp] theorem Tryz.tbytes86 : Tryz.t86.bytes = 8 := by kernel_rfl
@[simp] theorem Tryz.builder86 : builderTy Tryz.prog 86 = false := by kernel_rfl
@[simp] theorem Tryz.azero86 : azero Tryz.prog 86 = some (.nilfunc) := by kernel_rfl
@[simp] theorem Tryz.asize87 : asize Tryz.prog 87 = some 1 := by kernel_rfl
@[simp] theorem Tryz.info87 : Tryz.prog.info? 87 = some Tryz.t87 := by kernel_rfl
@[simp] theorem Tryz.tsize87 : Tryz.t87.size = 1 := by kernel_rfl
@[simp] theorem Tryz.tbytes87 : Tryz.t87.bytes = 8 := by kernel_rfl
@[simp] theorem Tryz.builder87 : builderTy Tryz.prog 87 = false := by kernel_rfl
@[simp] theorem Tryz.azero87 : azero Tryz.prog 87 = some (.nilfunc) := by kernel_rfl
@[simp] theorem Tryz.asize88 : asize Tryz.prog 88 = some 1 := by kernel_rfl
@[simp] theorem Tryz.info88 : Tryz.prog.info? 88 = some Tryz.t88 := by kernel_rfl
@[simp] theorem Tryz.tsize88 : Tryz.t88.size = 1 := by kernel_rfl
@[simp] theorem Tryz.tbytes88 : Tryz.t88.bytes = 8 := by kernel_rfl
@[simp] theorem Tryz.builder88 : builderTy Tryz.prog 88 = false := by kernel_rfl
@[simp] theorem Tryz.azero88 : azero Tryz.prog 88 = some (.nilfunc) := by kernel_rfl
@[simp] theorem Tryz.asize89 : asize Tryz.prog 89 = some 1 := by kernel_rfl
@[simp] theorem Tryz.info89 : Tryz.prog.info? 89 = some Tryz.t89 := by kernel_rfl
@[simp] theorem Tryz.tsize89 : Tryz.t89.size = 1 := by kernel_rfl
@[simp] theorem Tryz.tbytes89 : Tryz.t89.bytes = 8 := by kernel_rfl
@[simp] theorem Tryz.builder89 : builderTy Tryz.prog 89 = false := by kernel_rfl
@[simp] theorem Tryz.azero89 : azero Tryz.prog 89 = some (.nilfunc) := by kernel_rfl
@[simp] theorem Tryz.asize90 : asize Tryz.prog 90 = some 4 := by kernel_rfl
@[simp] theorem Tryz.info90 : Tryz.prog.info? 90 = some Tryz.t90 := by kernel_rfl
@[simp] theorem Tryz.tsize90 : Tryz.t90.size = 4 := by kernel_rfl
@[simp] theorem Tryz.tbytes90 : Tryz.t90.bytes = 32 := by kernel_rfl
@[simp] theorem Tryz.builder90 : builderTy Tryz.prog 90 = false := by kernel_rfl
@[simp] theorem Tryz.azero90 : azero Tryz.prog 90 = some (.agg [.int .i64 (0), .int .i64 (0), .int .i64 (0), .int .i64 (0)]) := by kernel_rfl
@[simp] theorem Tryz.asize91 : asize Tryz.prog 91 = some 4 := by kernel_rfl
@[simp] theorem Tryz.info91 : Tryz.prog.info? 91 = some Tryz.t91 := by kernel_rfl
@[simp] theorem Tryz.tsize91 : Tryz.t91.size = 4 := by kernel_rfl
@[simp] theorem Tryz.tbytes91 : Tryz.t91.bytes = 32 := by kernel_rfl
@[simp] theorem Tryz.builder91 : builderTy Tryz.prog 91 = false := by kernel_rfl
@[simp] theorem Tryz.azero91 : azero Tryz.prog 91 = some (.agg [.int .i64 (0), .int .i64 (0), .int .i64 (0), .int .i64 (0)]) := by kernel_rfl
@[simp] theorem Tryz.asize92 : asize Tryz.prog 92 = some 1 := by kernel_rfl
@[simp] theorem Tryz.info92 : Tryz.prog.info? 92 = some Tryz.t92 := by kernel_rfl
@[simp] theorem Tryz.tsize92 : Tryz.t92.size = 1 := by kernel_rfl
@[simp] theorem Tryz.tbytes92 : Tryz.t92.bytes = 8 := by kernel_rfl
@[simp] theorem Tryz.builder92 : builderTy Tryz.prog 92 = false := by kernel_rfl
@[simp] theorem Tryz.azero92 : azero Tryz.prog 92 = some (.nilfunc) := by kernel_rfl
@[simp] theorem Tryz.asize93 : asize Tryz.prog 93 = some 1 := by kernel_rfl
@[simp] theorem Tryz.info93 : Tryz.prog.info? 93 = some Tryz.t93 := by kernel_rfl
@[simp] theorem Tryz.tsize93 : Tryz.t93.size = 1 := by kernel_rfl
@[simp] theorem Tryz.tbytes93 : Tryz.t93.bytes = 4 := by kernel_rfl
@[simp] theorem Tryz.builder93 : builderTy Tryz.prog 93 = false := by kernel_rfl
@[simp] theorem Tryz.azero93 : azero Tryz.prog 93 = some (.int .u32 (0)) := by kernel_rfl
@[simp] theorem Tryz.asize94 : asize Tryz.prog 94 = some 1 := by kernel_rfl
@[simp] theorem Tryz.info94 : Tryz.prog.info? 94 = some Tryz.t94 := by kernel_rfl
@[simp] theorem Tryz.tsize94 : Tryz.t94.size = 1 := by kernel_rfl
@[simp] theorem Tryz.tbytes94 : Tryz.t94.bytes = 8 := by kernel_rfl
@[simp] theorem Tryz.builder94 : builderTy Tryz.prog 94 = false := by kernel_rfl
@[simp] theorem Tryz.azero94 : azero Tryz.prog 94 = some (.nilfunc) := by kernel_rfl
@[simp] theorem Tryz.asize95 : asize Tryz.prog 95 = some 1 := by kernel_rfl
@[simp] theorem Tryz.info95 : Tryz.prog.info? 95 = some Tryz.t95 := by kernel_rfl
@[simp] theorem Tryz.tsize95 : Tryz.t95.size = 1 := by kernel_rfl
@[simp] theorem Tryz.tbytes95 : Tryz.t95.bytes = 8 := by kernel_rfl
@[simp] theorem Tryz.builder95 : builderTy Tryz.prog 95 = false := by kernel_rfl
@[simp] theorem Tryz.azero95 : azero Tryz.prog 95 = some (.int .u64 (0)) := by kernel_rfl
@[simp] theorem Tryz.asize96 : asize Tryz.prog 96 = some 1 := by kernel_rfl
@[simp] theorem Tryz.info96 : Tryz.prog.info? 96 = some Tryz.t96 := by kernel_rfl
@[simp] theorem Tryz.tsize96 : Tryz.t96.size = 1 := by kernel_rfl
@[simp] theorem Tryz.tbytes96 : Tryz.t96.bytes = 8 := by kernel_rfl
@[simp] theorem Tryz.builder96 : builderTy Tryz.prog 96 = false := by kernel_rfl
@[simp] theorem Tryz.azero96 : azero Tryz.prog 96 = some (.nilfunc) := by kernel_rfl
@[simp] theorem Tryz.asize97 : asize Tryz.prog 97 = some 1 := by kernel_rfl
@[simp] theorem Tryz.info97 : Tryz.prog.info? 97 = some Tryz.t97 := by kernel_rfl
@[simp] theorem Tryz.tsize97 : Tryz.t97.size = 1 := by kernel_rfl
@[simp] theorem Tryz.tbytes97 : Tryz.t97.bytes = 8 := by kernel_rfl
@[simp] theorem Tryz.builder97 : builderTy Tryz.prog 97 = false := by kernel_rfl
@[simp] theorem Tryz.azero97 : azero Tryz.prog 97 = some (.nilptr) := by kernel_rfl
@[simp] theorem Tryz.asize98 : asize Tryz.prog 98 = some 4 := by kernel_rfl
@[simp] theorem Tryz.info98 : Tryz.prog.info? 98 = some Tryz.t98 := by kernel_rfl
@[simp] theorem Tryz.tsize98 : Tryz.t98.size = 4 := by kernel_rfl
@[simp] theorem Tryz.tbytes98 : Tryz.t98.bytes = 96 := by kernel_rfl
@[simp] theorem Tryz.builder98 : builderTy Tryz.prog 98 = false := by kernel_rfl
@[simp] theorem Tryz.azero98 : azero Tryz.prog 98 = some (.agg [.nilsl, .nilsl, .nilsl, .nilsl]) := by kernel_rfl
@[simp] theorem Tryz.asize99 : asize Tryz.prog 99 = some 4 := by kernel_rfl
@[simp] theorem Tryz.info99 : Tryz.prog.info? 99 = some Tryz.t99 := by kernel_rfl
@[simp] theorem Tryz.tsize99 : Tryz.t99.size = 4 := by kernel_rfl
@[simp] theorem Tryz.tbytes99 : Tryz.t99.bytes = 96 := by kernel_rfl
@[simp] theorem Tryz.builder99 : builderTy Tryz.prog 99 = false := by kernel_rfl
@[simp] theorem Tryz.azero99 : azero Tryz.prog 99 = some (.agg [.nilsl, .nilsl, .nilsl, .nilsl]) := by kernel_rfl
@[simp] theorem Tryz.asize100 : asize Tryz.prog 100 = some 1 := by kernel_rfl
@[simp] theorem Tryz.info100 : Tryz.prog.info? 100 = some Tryz.t100 := by kernel_rfl
@[simp] theorem Tryz.tsize100 : Tryz.t100.size = 1 := by kernel_rfl
@[simp] theorem Tryz.tbytes100 : Tryz.t100.bytes = 8 := by kernel_rfl
@[simp] theorem Tryz.builder100 : builderTy Tryz.prog 100 = false := by kernel_rfl
@[simp] theorem Tryz.azero100 : azero Tryz.prog 100 = some (.nilfunc) := by kernel_rfl
@[simp] theorem Tryz.asize101 : asize Tryz.prog 101 = some 1 := by kernel_rfl
@[simp] theorem Tryz.info101 : Tryz.prog.info? 101 = some Tryz.t101 := by kernel_rfl
@[simp] theorem Tryz.tsize101 : Tryz.t101.size = 1 := by kernel_rfl
@[simp] theorem Tryz.tbytes101 : Tryz.t101.bytes = 8 := by kernel_rfl
@[simp] theorem Tryz.builder101 : builderTy Tryz.prog 101 = false := by kernel_rfl
@[simp] theorem Tryz.azero101 : azero Tryz.prog 101 = some (.nilfunc) := by kernel_rfl
@[simp] theorem Tryz.asize102 : asize Tryz.prog 102 = some 1 := by kernel_rfl
@[simp] theorem Tryz.info102 : Tryz.prog.info? 102 = some Tryz.t102 := by kernel_rfl
@[simp] theorem Tryz.tsize102 : Tryz.t102.size = 1 := by kernel_rfl
@[simp] theorem Tryz.tbytes102 : Tryz.t102.bytes = 8 := by kernel_rfl
@[simp] theorem Tryz.builder102 : builderTy Tryz.prog 102 = false := by kernel_rfl
@[simp] theorem Tryz.azero102 : azero Tryz.prog 102 = some (.nilptr) := by kernel_rfl
@[simp] theorem Tryz.asize103 : asize Tryz.prog 103 = some 8 := by kernel_rfl
@[simp] theorem Tryz.info103 : Tryz.prog.info? 103 = some Tryz.t103 := by kernel_rfl
@[simp] theorem Tryz.tsize103 : Tryz.t103.size = 8 := by kernel_rfl
@[simp] theorem Tryz.tbytes103 : Tryz.t103.bytes = 152 := by kernel_rfl
@[simp] theorem Tryz.builder103 : builderTy Tryz.prog 103 = false := by kernel_rfl
@[simp] theorem Tryz.azero103 : azero Tryz.prog 103 = some (.agg [.nilsl, .str [], .nilsl, .nilsl, .nilsl, .nilsl, .int .i64 (0), .int .i64 (0)]) := by kernel_rfl
@[simp] theorem Tryz.asize104 : asize Tryz.prog 104 = some 8 := by kernel_rfl
@[simp] theorem Tryz.info104 : Tryz.prog.info? 104 = some Tryz.t104 := by kernel_rfl
@[simp] theorem Tryz.tsize104 : Tryz.t104.size = 8 := by kernel_rfl
@[simp] theorem Tryz.tbytes104 : Tryz.t104.bytes = 152 := by kernel_rfl
@[simp] theorem Tryz.builder104 : builderTy Tryz.prog 104 = false := by kernel_rfl
@[simp] theorem Tryz.azero104 : azero Tryz.prog 104 = some (.agg [.nilsl, .str [], .nilsl, .nilsl, .nilsl, .nilsl, .int .i64 (0), .int .i64 (0)]) := by kernel_rfl
@[simp] theorem Tryz.asize105 : asize Tryz.prog 105 = some 1 := by kernel_rfl
@[simp] theorem Tryz.info105 : Tryz.prog.info? 105 = some Tryz.t105 := by kernel_rfl
@[simp] theorem Tryz.tsize105 : Tryz.t105.size = 1 := by kernel_rfl
@[simp] theorem Tryz.tbytes105 : Tryz.t105.bytes = 8 := by kernel_rfl
@[simp] theorem Tryz.builder105 : builderTy Tryz.prog 105 = false := by kernel_rfl
@[simp] theorem Tryz.azero105 : azero Tryz.prog 105 = some (.nilfunc) := by kernel_rfl
@[simp] theorem Tryz.asize106 : asize Tryz.prog 106 = some 1 := by kernel_rfl
@[simp] theorem Tryz.info106 : Tryz.prog.info? 106 = some Tryz.t106 := by kernel_rfl
@[simp] theorem Tryz.tsize106 : Tryz.t106.size = 1 := by kernel_rfl
@[simp] theorem Tryz.tbytes106 : Tryz.t106.bytes = 8 := by kernel_rfl
@[simp] theorem Tryz.builder106 : builderTy Tryz.prog 106 = false := by kernel_rfl
@[simp] theorem Tryz.azero106 : azero Tryz.prog 106 = some (.nilptr) := by kernel_rfl
@[simp] theorem Tryz.asize107 : asize Tryz.prog 107 = some 5 := by kernel_rfl
@[simp] theorem Tryz.info107 : Tryz.prog.info? 107 = some Tryz.t107 := by kernel_rfl
@[simp] theorem Tryz.tsize107 : Tryz.t107.size = 5 := by kernel_rfl
@[simp] theorem Tryz.tbytes107 : Tryz.t107.bytes = 56 := by kernel_rfl
@[simp] theorem Tryz.builder107 : builderTy Tryz.prog 107 = false := by kernel_rfl
@[simp] theorem Tryz.azero107 : azero Tryz.prog 107 = some (.agg [.str [], .int .i64 (0), .str [], .bool false, .int .i64 (0)]) := by kernel_rfl
@[simp] theorem Tryz.asize108 : asize Tryz.prog 108 = some 5 := by kernel_rfl
@[simp] theorem Tryz.info108 : Tryz.prog.info? 108 = some Tryz.t108 := by kernel_rfl
@[simp] theorem Tryz.tsize108 : Tryz.t108.size = 5 := by kernel_rfl
@[simp] theorem Tryz.tbytes108 : Tryz.t108.bytes = 56 := by kernel_rfl
@[simp] theorem Tryz.builder108 : builderTy Tryz.prog 108 = false := by kernel_rfl
@[simp] theorem Tryz.azero108 : azero Tryz.prog 108 = some (.agg [.str [], .int .i64 (0), .str [], .bool false, .int .i64 (0)]) := by kernel_rfl
@[simp] theorem Tryz.asize109 : asize Tryz.prog 109 = some 12 := by kernel_rfl
@[simp] theorem Tryz.info109 : Tryz.prog.info? 109 = some Tryz.t109 := by kernel_rfl
@[simp] theorem Tryz.tsize109 : Tryz.t109.size = 12 := by kernel_rfl
@[simp] theorem Tryz.tbytes109 : Tryz.t109.bytes = 192 := by kernel_rfl
@[simp] theorem Tryz.builder109 : builderTy Tryz.prog 109 = false := by kernel_rfl
@[simp] theorem Tryz.azero109 : azero Tryz.prog 109 = some (.agg [.str [], .nilsl, .nilsl, .nilsl, .nilsl, .int .i64 (0), .str [], .str [], .int .i64 (0), .str [], .bool false, .int .i64 (0)]) := by kernel_rfl
@[simp] theorem Tryz.asize110 : asize Tryz.prog 110 = some 12 := by kernel_rfl
@[simp] theorem Tryz.info110 : Tryz.prog.info? 110 = some Tryz.t110 := by kernel_rfl
@[simp] theorem Tryz.tsize110 : Tryz.t110.size = 12 := by kernel_rfl
@[simp] theorem Tryz.tbytes110 : Tryz.t110.bytes = 192 := by kernel_rfl
@[simp] theorem Tryz.builder110 : builderTy Tryz.prog 110 = false := by kernel_rfl
@[simp] theorem Tryz.azero110 : azero Tryz.prog 110 = some (.agg [.str [], .nilsl, .nilsl, .nilsl, .nilsl, .int .i64 (0), .str [], .str [], .int .i64 (0), .str [], .bool false, .int .i64 (0)]) := by kernel_rfl
@[simp] theorem Tryz.asize111 : asize Tryz.prog 111 = some 1 := by kernel_rfl
@[simp] theorem Tryz.info111 : Tryz.prog.info? 111 = some Tryz.t111 := by kernel_rfl
@[simp] theorem Tryz.tsize111 : Tryz.t111.size = 1 := by kernel_rfl
@[simp] theorem Tryz.tbytes111 : Tryz.t111.bytes = 8 := by kernel_rfl
@[simp] theorem Tryz.builder111 : builderTy Tryz.prog 111 = false := by kernel_rfl
@[simp] theorem Tryz.azero111 : azero Tryz.prog 111 = some (.nilptr) := by kernel_rfl
@[simp] theorem Tryz.asize112 : asize Tryz.prog 112 = some 1 := by kernel_rfl
@[simp] theorem Tryz.info112 : Tryz.prog.info? 112 = some Tryz.t112 := by kernel_rfl
@[simp] theorem Tryz.tsize112 : Tryz.t112.size = 1 := by kernel_rfl
@[simp] theorem Tryz.tbytes112 : Tryz.t112.bytes = 8 := by kernel_rfl
@[simp] theorem Tryz.builder112 : builderTy Tryz.prog 112 = false := by kernel_rfl
@[simp] theorem Tryz.azero112 : azero Tryz.prog 112 = some (.nilmap) := by kernel_rfl
@[simp] theorem Tryz.asize113 : asize Tryz.prog 113 = some 1 := by kernel_rfl
@[simp] theorem Tryz.info113 : Tryz.prog.info? 113 = some Tryz.t113 := by kernel_rfl
@[simp] theorem Tryz.tsize113 : Tryz.t113.size = 1 := by kernel_rfl
@[simp] theorem Tryz.tbytes113 : Tryz.t113.bytes = 8 := by kernel_rfl
@[simp] theorem Tryz.builder113 : builderTy Tryz.prog 113 = false := by kernel_rfl
@[simp] theorem Tryz.azero113 : azero Tryz.prog 113 = some (.nilmap) := by kernel_rfl
@[simp] theorem Tryz.asize114 : asize Tryz.prog 114 = some 1 := by kernel_rfl
@[simp] theorem Tryz.info114 : Tryz.prog.info? 114 = some Tryz.t114 := by kernel_rfl
@[simp] theorem Tryz.tsize114 : Tryz.t114.size = 1 := by kernel_rfl
@[simp] theorem Tryz.tbytes114 : Tryz.t114.bytes = 24 := by kernel_rfl
@[simp] theorem Tryz.builder114 : builderTy Tryz.prog 114 = false := by kernel_rfl
@[simp] theorem Tryz.azero114 : azero Tryz.prog 114 = some (.nilsl) := by kernel_rfl
@[simp] theorem Tryz.asize115 : asize Tryz.prog 115 = some 1 := by kernel_rfl
@[simp] theorem Tryz.info115 : Tryz.prog.info? 115 = some Tryz.t115 := by kernel_rfl
@[simp] theorem Tryz.tsize115 : Tryz.t115.size = 1 := by kernel_rfl
@[simp] theorem Tryz.tbytes115 : Tryz.t115.bytes = 24 := by kernel_rfl
@[simp] theorem Tryz.builder115 : builderTy Tryz.prog 115 = false := by kernel_rfl
@[simp] theorem Tryz.azero115 : azero Tryz.prog 115 = some (.nilsl) := by kernel_rfl
@[simp] theorem Tryz.asize116 : asize Tryz.prog 116 = some 17 := by kernel_rfl
@[simp] theorem Tryz.info116 : Tryz.prog.info? 116 = some Tryz.t116 := by kernel_rfl
@[simp] theorem Tryz.tsize116 : Tryz.t116.size = 17 := by kernel_rfl
@[simp] theorem Tryz.tbytes116 : Tryz.t116.bytes = 352 := by kernel_rfl
@[simp] theorem Tryz.builder116 : builderTy Tryz.prog 116 = false := by kernel_rfl
@[simp] theorem Tryz.azero116 : azero Tryz.prog 116 = some (.agg [.str [], .nilsl, .nilsl, .nilsl, .nilsl, .int .i64 (0), .nilsl, .nilsl, .nilsl, .nilsl, .nilsl, .nilsl, .nilmap, .nilmap, .nilsl, .nilsl, .nilsl]) := by kernel_rfl
@[simp] theorem Tryz.asize117 : asize Tryz.prog 117 = some 17 := by kernel_rfl
@[simp] theorem Tryz.info117 : Tryz.prog.info? 117 = some Tryz.t117 := by kernel_rfl
@[simp] theorem Tryz.tsize117 : Tryz.t117.size = 17 := by kernel_rfl
@[simp] theorem Tryz.tbytes117 : Tryz.t117.bytes = 352 := by kernel_rfl
@[simp] theorem Tryz.builder117 : builderTy Tryz.prog 117 = false := by kernel_rfl
@[simp] theorem Tryz.azero117 : azero Tryz.prog 117 = some (.agg [.str [], .nilsl, .nilsl, .nilsl, .nilsl, .int .i64 (0), .nilsl, .nilsl, .nilsl, .nilsl, .nilsl, .nilsl, .nilmap, .nilmap, .nilsl, .nilsl, .nilsl]) := by kernel_rfl
@[simp] theorem Tryz.asize118 : asize Tryz.prog 118 = some 1 := by kernel_rfl
@[simp] theorem Tryz.info118 : Tryz.prog.info? 118 = some Tryz.t118 := by kernel_rfl
@[simp] theorem Tryz.tsize118 : Tryz.t118.size = 1 := by kernel_rfl
@[simp] theorem Tryz.tbytes118 : Tryz.t118.bytes = 24 := by kernel_rfl
@[simp] theorem Tryz.builder118 : builderTy Tryz.prog 118 = false := by kernel_rfl
@[simp] theorem Tryz.azero118 : azero Tryz.prog 118 = some (.nilsl) := by kernel_rfl
@[simp] theorem Tryz.asize119 : asize Tryz.prog 119 = some 1 := by kernel_rfl
@[simp] theorem Tryz.info119 : Tryz.prog.info? 119 = some Tryz.t119 := by kernel_rfl
@[simp] theorem Tryz.tsize119 : Tryz.t119.size = 1 := by kernel_rfl
@[simp] theorem Tryz.tbytes119 : Tryz.t119.bytes = 0 := by kernel_rfl
@[simp] theorem Tryz.builder119 : builderTy Tryz.prog 119 = false := by kernel_rfl
@[simp] theorem Tryz.azero119 : azero Tryz.prog 119 = some (.tuple [.nilsl, .bool false]) := by kernel_rfl
@[simp] theorem Tryz.asize120 : asize Tryz.prog 120 = some 1 := by kernel_rfl
@[simp] theorem Tryz.info120 : Tryz.prog.info? 120 = some Tryz.t120 := by kernel_rfl
@[simp] theorem Tryz.tsize120 : Tryz.t120.size = 1 := by kernel_rfl
@[simp] theorem Tryz.tbytes120 : Tryz.t120.bytes = 8 := by kernel_rfl
@[simp] theorem Tryz.builder120 : builderTy Tryz.prog 120 = false := by kernel_rfl
@[simp] theorem Tryz.azero120 : azero Tryz.prog 120 = some (.nilfunc) := by kernel_rfl
@[simp] theorem Tryz.asize121 : asize Tryz.prog 121 = some 1 := by kernel_rfl
@[simp] theorem Tryz.info121 : Tryz.prog.info? 121 = some Tryz.t121 := by kernel_rfl
@[simp] theorem Tryz.tsize121 : Tryz.t121.size = 1 := by kernel_rfl
@[simp] theorem Tryz.tbytes121 : Tryz.t121.bytes = 8 := by kernel_rfl
@[simp] theorem Tryz.builder121 : builderTy Tryz.prog 121 = false := by kernel_rfl
@[simp] theorem Tryz.azero121 : azero Tryz.prog 121 = some (.nilmap) := by kernel_rfl
@[simp] theorem Tryz.asize122 : asize Tryz.prog 122 = some 1 := by kernel_rfl
@[simp] theorem Tryz.info122 : Tryz.prog.info? 122 = some Tryz.t122 := by kernel_rfl
@[simp] theorem Tryz.tsize122 : Tryz.t122.size = 1 := by kernel_rfl
@[simp] theorem Tryz.tbytes122 : Tryz.t122.bytes = 24 := by kernel_rfl
@[simp] theorem Tryz.builder122 : builderTy Tryz.prog 122 = false := by kernel_rfl
@[simp] theorem Tryz.azero122 : azero Tryz.prog 122 = some (.nilsl) := by kernel_rfl
@[simp] theorem Tryz.asize123 : asize Tryz.prog 123 = some 1 := by kernel_rfl
@[simp] theorem Tryz.info123 : Tryz.prog.info? 123 = some Tryz.t123 := by kernel_rfl
@[simp] theorem Tryz.tsize123 : Tryz.t123.size = 1 := by kernel_rfl
@[simp] theorem Tryz.tbytes123 : Tryz.t123.bytes = 24 := by kernel_rfl
@[simp] theorem Tryz.builder123 : builderTy Tryz.prog 123 = false := by kernel_rfl
@[simp] theorem Tryz.azero123 : azero Tryz.prog 123 = some (.nilsl) := by kernel_rfl
@[simp] theorem Tryz.asize124 : asize Tryz.prog 124 = some 8 := by kernel_rfl
@[simp] theorem Tryz.info124 : Tryz.prog.info? 124 = some Tryz.t124 := by kernel_rfl
@[simp] theorem Tryz.tsize124 : Tryz.t124.size = 8 := by kernel_rfl
@[simp] theorem Tryz.tbytes124 : Tryz.t124.bytes = 128 := by kernel_rfl
@[simp] theorem Tryz.builder124 : builderTy Tryz.prog 124 = false := by kernel_rfl
@[simp] theorem Tryz.azero124 : azero Tryz.prog 124 = some (.agg [.str [], .str [], .int .i64 (0), .int .i64 (0), .nilsl, .nilsl, .nilsl, .bool false]) := by kernel_rfl
@[simp] theorem Tryz.asize125 : asize Tryz.prog 125 = some 8 := by kernel_rfl
@[simp] theorem Tryz.info125 : Tryz.prog.info? 125 = some Tryz.t125 := by kernel_rfl
@[simp] theorem Tryz.tsize125 : Tryz.t125.size = 8 := by kernel_rfl
@[simp] theorem Tryz.tbytes125 : Tryz.t125.bytes = 128 := by kernel_rfl
@[simp] theorem Tryz.builder125 : builderTy Tryz.prog 125 = false := by kernel_rfl
@[simp] theorem Tryz.azero125 : azero Tryz.prog 125 = some (.agg [.str [], .str [], .int .i64 (0), .int .i64 (0), .nilsl, .nilsl, .nilsl, .bool false]) := by kernel_rfl
@[simp] theorem Tryz.asize126 : asize Tryz.prog 126 = some 1 := by kernel_rfl
@[simp] theorem Tryz.info126 : Tryz.prog.info? 126 = some Tryz.t126 := by kernel_rfl
@[simp] theorem Tryz.tsize126 : Tryz.t126.size = 1 := by kernel_rfl
@[simp] theorem Tryz.tbytes126 : Tryz.t126.bytes = 0 := by kernel_rfl
@[simp] theorem Tryz.builder126 : builderTy Tryz.prog 126 = false := by kernel_rfl
@[simp] theorem Tryz.asize127 : asize Tryz.prog 127 = some 1 := by kernel_rfl
@[simp] theorem Tryz.info127 : Tryz.prog.info? 127 = some Tryz.t127 := by kernel_rfl
@[simp] theorem Tryz.tsize127 : Tryz.t127.size = 1 := by kernel_rfl
@[simp] theorem Tryz.tbytes127 : Tryz.t127.bytes = 8 := by kernel_rfl
@[simp] theorem Tryz.builder127 : builderTy Tryz.prog 127 = false := by kernel_rfl
@[simp] theorem Tryz.azero127 : azero Tryz.prog 127 = some (.nilfunc) := by kernel_rfl
@[simp] theorem Tryz.asize128 : asize Tryz.prog 128 = some 1 := by kernel_rfl
@[simp] theorem Tryz.info128 : Tryz.prog.info? 128 = some Tryz.t128 := by kernel_rfl
@[simp] theorem Tryz.tsize128 : Tryz.t128.size = 1 := by kernel_rfl
@[simp] theorem Tryz.tbytes128 : Tryz.t128.bytes = 8 := by kernel_rfl
@[simp] theorem Tryz.builder128 : builderTy Tryz.prog 128 = false := by kernel_rfl
@[simp] theorem Tryz.azero128 : azero Tryz.prog 128 = some (.nilfunc) := by kernel_rfl
@[simp] theorem Tryz.asize129 : asize Tryz.prog 129 = some 1 := by kernel_rfl
@[simp] theorem Tryz.info129 : Tryz.prog.info? 129 = some Tryz.t129 := by kernel_rfl
@[simp] theorem Tryz.tsize129 : Tryz.t129.size = 1 := by kernel_rfl
@[simp] theorem Tryz.tbytes129 : Tryz.t129.bytes = 8 := by kernel_rfl
@[simp] theorem Tryz.builder129 : builderTy Tryz.prog 129 = false := by kernel_rfl
@[simp] theorem Tryz.azero129 : azero Tryz.prog 129 = some (.nilfunc) := by kernel_rfl
@[simp] theorem Tryz.asize130 : asize Tryz.prog 130 = some 1 := by kernel_rfl
@[simp] theorem Tryz.info130 : Tryz.prog.info? 130 = some Tryz.t130 := by kernel_rfl
@[simp] theorem Tryz.tsize130 : Tryz.t130.size = 1 := by kernel_rfl
@[simp] theorem Tryz.tbytes130 : Tryz.t130.bytes = 8 := by kernel_rfl
@[simp] theorem Tryz.builder130 : builderTy Tryz.prog 130 = false := by kernel_rfl
@[simp] theorem Tryz.azero130 : azero Tryz.prog 130 = some (.nilfunc) := by kernel_rfl
@[simp] theorem Tryz.asize131 : asize Tryz.prog 131 = some 1 := by kernel_rfl
@[simp] theorem Tryz.info131 : Tryz.prog.info? 131 = some Tryz.t131 := by kernel_rfl
@[simp] theorem Tryz.tsize131 : Tryz.t131.size = 1 := by kernel_rfl
@[simp] theorem Tryz.tbytes131 : Tryz.t131.bytes = 0 := by kernel_rfl
@[simp] theorem Tryz.builder131 : builderTy Tryz.prog 131 = false := by kernel_rfl
@[simp] theorem Tryz.asize132 : asize Tryz.prog 132 = some 1 := by kernel_rfl
@[simp] theorem Tryz.info132 : Tryz.prog.info? 132 = some Tryz.t132 := by kernel_rfl
@[simp] theorem Tryz.tsize132 : Tryz.t132.size = 1 := by kernel_rfl
@[simp] theorem Tryz.tbytes132 : Tryz.t132.bytes = 8 := by kernel_rfl
@[simp] theorem Tryz.builder132 : builderTy Tryz.prog 132 = false := by kernel_rfl
@[simp] theorem Tryz.azero132 : azero Tryz.prog 132 = some (.nilfunc) := by kernel_rfl
@[simp] theorem Tryz.asize133 : asize Tryz.prog 133 = some 1 := by kernel_rfl
@[simp] theorem Tryz.info133 : Tryz.prog.info? 133 = some Tryz.t133 := by kernel_rfl
@[simp] theorem Tryz.tsize133 : Tryz.t133.size = 1 := by kernel_rfl
@[simp] theorem Tryz.tbytes133 : Tryz.t133.bytes = 8 := by kernel_rfl
@[simp] theorem Tryz.builder133 : builderTy Tryz.prog 133 = false := by kernel_rfl
@[simp] theorem Tryz.azero133 : azero Tryz.prog 133 = some (.nilfunc) := by kernel_rfl
@[simp] theorem Tryz.asize134 : asize Tryz.prog 134 = some 1 := by kernel_rfl
@[simp] theorem Tryz.info134 : Tryz.prog.info? 134 = some Tryz.t134 := by kernel_rfl
@[simp] theorem Tryz.tsize134 : Tryz.t134.size = 1 := by kernel_rfl
@[simp] theorem Tryz.tbytes134 : Tryz.t134.bytes = 8 := by kernel_rfl
@[simp] theorem Tryz.builder134 : builderTy Tryz.prog 134 = false := by kernel_rfl
@[simp] theorem Tryz.azero134 : azero Tryz.prog 134 = some (.nilfunc) := by kernel_rfl
@[simp] theorem Tryz.asize135 : asize Tryz.prog 135 = some 1 := by kernel_rfl
@[simp] theorem Tryz.info135 : Tryz.prog.info? 135 = some Tryz.t135 := by kernel_rfl
@[simp] theorem Tryz.tsize135 : Tryz.t135.size = 1 := by kernel_rfl
@[simp] theorem Tryz.tbytes135 : Tryz.t135.bytes = 8 := by kernel_rfl
@[simp] theorem Tryz.builder135 : builderTy Tryz.prog 135 = false := by kernel_rfl
@[simp] theorem Tryz.azero135 : azero Tryz.prog 135 = some (.nilfunc) := by kernel_rfl
@[simp] theorem Tryz.asize136 : asize Tryz.prog 136 = some 1 := by kernel_rfl
@[simp] theorem Tryz.info136 : Tryz.prog.info? 136 = some Tryz.t136 := by kernel_rfl
@[simp] theorem Tryz.tsize136 : Tryz.t136.size = 1 := by kernel_rfl
@[simp] theorem Tryz.tbytes136 : Tryz.t136.bytes = 8 := by kernel_rfl
@[simp] theorem Tryz.builder136 : builderTy Tryz.prog 136 = false := by kernel_rfl
@[simp] theorem Tryz.azero136 : azero Tryz.prog 136 = some (.nilfunc) := by kernel_rfl
@[simp] theorem Tryz.asize137 : asize Tryz.prog 137 = some 1 := by kernel_rfl
@[simp] theorem Tryz.info137 : Tryz.prog.info? 137 = some Tryz.t137 := by kernel_rfl
@[simp] theorem Tryz.tsize137 : Tryz.t137.size = 1 := by kernel_rfl
@[simp] theorem Tryz.tbytes137 : Tryz.t137.bytes = 8 := by kernel_rfl
@[simp] theorem Tryz.builder137 : builderTy Tryz.prog 137 = false := by kernel_rfl
@[simp] theorem Tryz.azero137 : azero Tryz.prog 137 = some (.nilfunc) := by kernel_rfl
@[simp] theorem Tryz.asize138 : asize Tryz.prog 138 = some 1 := by kernel_rfl
@[simp] theorem Tryz.info138 : Tryz.prog.info? 138 = some Tryz.t138 := by kernel_rfl
@[simp] theorem Tryz.tsize138 : Tryz.t138.size = 1 := by kernel_rfl
@[simp] theorem Tryz.tbytes138 : Tryz.t138.bytes = 8 := by kernel_rfl
@[simp] theorem Tryz.builder138 : builderTy Tryz.prog 138 = false := by kernel_rfl
@[simp] theorem Tryz.azero138 : azero Tryz.prog 138 = some (.nilptr) := by kernel_rfl
@[simp] theorem Tryz.asize139 : asize Tryz.prog 139 = some 1 := by kernel_rfl
@[simp] theorem Tryz.info139 : Tryz.prog.info? 139 = some Tryz.t139 := by kernel_rfl
@[simp] theorem Tryz.tsize139 : Tryz.t139.size = 1 := by kernel_rfl
@[simp] theorem Tryz.tbytes139 : Tryz.t139.bytes = 8 := by kernel_rfl
@[simp] theorem Tryz.builder139 : builderTy Tryz.prog 139 = false := by kernel_rfl
@[simp] theorem Tryz.azero139 : azero Tryz.prog 139 = some (.nilmap) := by kernel_rfl
@[simp] theorem Tryz.asize140 : asize Tryz.prog 140 = some 8 := by kernel_rfl
@[simp] theorem Tryz.info140 : Tryz.prog.info? 140 = some Tryz.t140 := by kernel_rfl
@[simp] theorem Tryz.tsize140 : Tryz.t140.size = 8 := by kernel_rfl
@[simp] theorem Tryz.tbytes140 : Tryz.t140.bytes = 152 := by kernel_rfl
@[simp] theorem Tryz.builder140 : builderTy Tryz.prog 140 = false := by kernel_rfl
@[simp] theorem Tryz.azero140 : azero Tryz.prog 140 = some (.agg [.nilsl, .str [], .nilsl, .nilsl, .nilsl, .nilsl, .int .i64 (0), .nilmap]) := by kernel_rfl
@[simp] theorem Tryz.asize141 : asize Tryz.prog 141 = some 8 := by kernel_rfl
@[simp] theorem Tryz.info141 : Tryz.prog.info? 141 = some Tryz.t141 := by kernel_rfl
@[simp] theorem Tryz.tsize141 : Tryz.t141.size = 8 := by kernel_rfl
@[simp] theorem Tryz.tbytes141 : Tryz.t141.bytes = 152 := by kernel_rfl
@[simp] theorem Tryz.builder141 : builderTy Tryz.prog 141 = false := by kernel_rfl
@[simp] theorem Tryz.azero141 : azero Tryz.prog 141 = some (.agg [.nilsl, .str [], .nilsl, .nilsl, .nilsl, .nilsl, .int .i64 (0), .nilmap]) := by kernel_rfl
@[simp] theorem Tryz.asize142 : asize Tryz.prog 142 = some 1 := by kernel_rfl
@[simp] theorem Tryz.info142 : Tryz.prog.info? 142 = some Tryz.t142 := by kernel_rfl
@[simp] theorem Tryz.tsize142 : Tryz.t142.size = 1 := by kernel_rfl
@[simp] theorem Tryz.tbytes142 : Tryz.t142.bytes = 8 := by kernel_rfl
@[simp] theorem Tryz.builder142 : builderTy Tryz.prog 142 = false := by kernel_rfl
@[simp] theorem Tryz.azero142 : azero Tryz.prog 142 = some (.nilfunc) := by kernel_rfl
@[simp] theorem Tryz.asize143 : asize Tryz.prog 143 = some 1 := by kernel_rfl
@[simp] theorem Tryz.info143 : Tryz.prog.info? 143 = some Tryz.t143 := by kernel_rfl
@[simp] theorem Tryz.tsize143 : Tryz.t143.size = 1 := by kernel_rfl
@[simp] theorem Tryz.tbytes143 : Tryz.t143.bytes = 8 := by kernel_rfl
@[simp] theorem Tryz.builder143 : builderTy Tryz.prog 143 = false := by kernel_rfl
@[simp] theorem Tryz.azero143 : azero Tryz.prog 143 = some (.nilptr) := by kernel_rfl
@[simp] theorem Tryz.asize144 : asize Tryz.prog 144 = some 1 := by kernel_rfl
@[simp] theorem Tryz.info144 : Tryz.prog.info? 144 = some Tryz.t144 := by kernel_rfl
@[simp] theorem Tryz.tsize144 : Tryz.t144.size = 1 := by kernel_rfl
@[simp] theorem Tryz.tbytes144 : Tryz.t144.bytes = 24 := by kernel_rfl
@[simp] theorem Tryz.builder144 : builderTy Tryz.prog 144 = false := by kernel_rfl
@[simp] theorem Tryz.azero144 : azero Tryz.prog 144 = some (.nilsl) := by kernel_rfl
@[simp] theorem Tryz.asize145 : asize Tryz.prog 145 = some 8 := by kernel_rfl
@[simp] theorem Tryz.info145 : Tryz.prog.info? 145 = some Tryz.t145 := by kernel_rfl
@[simp] theorem Tryz.tsize145 : Tryz.t145.size = 8 := by kernel_rfl
@[simp] theorem Tryz.tbytes145 : Tryz.t145.bytes = 168 := by kernel_rfl
@[simp] theorem Tryz.builder145 : builderTy Tryz.prog 145 = false := by kernel_rfl
@[simp] theorem Tryz.azero145 : azero Tryz.prog 145 = some (.agg [.nilsl, .str [], .nilsl, .nilsl, .nilsl, .nilsl, .int .i64 (0), .nilsl]) := by kernel_rfl
@[simp] theorem Tryz.asize146 : asize Tryz.prog 146 = some 8 := by kernel_rfl
@[simp] theorem Tryz.info146 : Tryz.prog.info? 146 = some Tryz.t146 := by kernel_rfl
@[simp] theorem Tryz.tsize146 : Tryz.t146.size = 8 := by kernel_rfl
@[simp] theorem Tryz.tbytes146 : Tryz.t146.bytes = 168 := by kernel_rfl
@[simp] theorem Tryz.builder146 : builderTy Tryz.prog 146 = false := by kernel_rfl
@[simp] theorem Tryz.azero146 : azero Tryz.prog 146 = some (.agg [.nilsl, .str [], .nilsl, .nilsl, .nilsl, .nilsl, .int .i64 (0), .nilsl]) := by kernel_rfl
@[simp] theorem Tryz.asize147 : asize Tryz.prog 147 = some 1 := by kernel_rfl
@[simp] theorem Tryz.info147 : Tryz.prog.info? 147 = some Tryz.t147 := by kernel_rfl
@[simp] theorem Tryz.tsize147 : Tryz.t147.size = 1 := by kernel_rfl
@[simp] theorem Tryz.tbytes147 : Tryz.t147.bytes = 8 := by kernel_rfl
@[simp] theorem Tryz.builder147 : builderTy Tryz.prog 147 = false := by kernel_rfl
@[simp] theorem Tryz.azero147 : azero Tryz.prog 147 = some (.nilptr) := by kernel_rfl
@[simp] theorem Tryz.asize148 : asize Tryz.prog 148 = some 7 := by kernel_rfl
@[simp] theorem Tryz.info148 : Tryz.prog.info? 148 = some Tryz.t148 := by kernel_rfl
@[simp] theorem Tryz.tsize148 : Tryz.t148.size = 7 := by kernel_rfl
@[simp] theorem Tryz.tbytes148 : Tryz.t148.bytes = 144 := by kernel_rfl
@[simp] theorem Tryz.builder148 : builderTy Tryz.prog 148 = false := by kernel_rfl
@[simp] theorem Tryz.azero148 : azero Tryz.prog 148 = some (.agg [.str [], .nilsl, .nilsl, .nilsl, .nilsl, .int .i64 (0), .nilsl]) := by kernel_rfl
@[simp] theorem Tryz.asize149 : asize Tryz.prog 149 = some 7 := by kernel_rfl
@[simp] theorem Tryz.info149 : Tryz.prog.info? 149 = some Tryz.t149 := by kernel_rfl
@[simp] theorem Tryz.tsize149 : Tryz.t149.size = 7 := by kernel_rfl
@[simp] theorem Tryz.tbytes149 : Tryz.t149.bytes = 144 := by kernel_rfl
@[simp] theorem Tryz.builder149 : builderTy Tryz.prog 149 = false := by kernel_rfl
@[simp] theorem Tryz.azero149 : azero Tryz.prog 149 = some (.agg [.str [], .nilsl, .nilsl, .nilsl, .nilsl, .int .i64 (0), .nilsl]) := by kernel_rfl
@[simp] theorem Tryz.asize150 : asize Tryz.prog 150 = some 1 := by kernel_rfl
@[simp] theorem Tryz.info150 : Tryz.prog.info? 150 = some Tryz.t150 := by kernel_rfl
@[simp] theorem Tryz.tsize150 : Tryz.t150.size = 1 := by kernel_rfl
@[simp] theorem Tryz.tbytes150 : Tryz.t150.bytes = 8 := by kernel_rfl
@[simp] theorem Tryz.builder150 : builderTy Tryz.prog 150 = false := by kernel_rfl
@[simp] theorem Tryz.azero150 : azero Tryz.prog 150 = some (.nilfunc) := by kernel_rfl
@[simp] theorem Tryz.asize151 : asize Tryz.prog 151 = some 1 := by kernel_rfl
@[simp] theorem Tryz.info151 : Tryz.prog.info? 151 = some Tryz.t151 := by kernel_rfl
@[simp] theorem Tryz.tsize151 : Tryz.t151.size = 1 := by kernel_rfl
@[simp] theorem Tryz.tbytes151 : Tryz.t151.bytes = 8 := by kernel_rfl
@[simp] theorem Tryz.builder151 : builderTy Tryz.prog 151 = false := by kernel_rfl
@[simp] theorem Tryz.azero151 : azero Tryz.prog 151 = some (.nilfunc) := by kernel_rfl
@[simp] theorem Tryz.asize152 : asize Tryz.prog 152 = some 1 := by kernel_rfl
@[simp] theorem Tryz.info152 : Tryz.prog.info? 152 = some Tryz.t152 := by kernel_rfl
@[simp] theorem Tryz.tsize152 : Tryz.t152.size = 1 := by kernel_rfl
@[simp] theorem Tryz.tbytes152 : Tryz.t152.bytes = 8 := by kernel_rfl
@[simp] theorem Tryz.builder152 : builderTy Tryz.prog 152 = false := by kernel_rfl
@[simp] theorem Tryz.azero152 : azero Tryz.prog 152 = some (.nilfunc) := by kernel_rfl
@[simp] theorem Tryz.asize153 : asize Tryz.prog 153 = some 1 := by kernel_rfl
@[simp] theorem Tryz.info153 : Tryz.prog.info? 153 = some Tryz.t153 := by kernel_rfl
@[simp] theorem Tryz.tsize153 : Tryz.t153.size = 1 := by kernel_rfl
@[simp] theorem Tryz.tbytes153 : Tryz.t153.bytes = 8 := by kernel_rfl
@[simp] theorem Tryz.builder153 : builderTy Tryz.prog 153 = false := by kernel_rfl
@[simp] theorem Tryz.azero153 : azero Tryz.prog 153 = some (.nilmap) := by kernel_rfl
@[simp] theorem Tryz.asize154 : asize Tryz.prog 154 = some 1 := by kernel_rfl
@[simp] theorem Tryz.info154 : Tryz.prog.info? 154 = some Tryz.t154 := by kernel_rfl
@[simp] theorem Tryz.tsize154 : Tryz.t154.size = 1 := by kernel_rfl
@[simp] theorem Tryz.tbytes154 : Tryz.t154.bytes = 8 := by kernel_rfl
@[simp] theorem Tryz.builder154 : builderTy Tryz.prog 154 = false := by kernel_rfl
@[simp] theorem Tryz.azero154 : azero Tryz.prog 154 = some (.nilfunc) := by kernel_rfl
@[simp] theorem Tryz.asize155 : asize Tryz.prog 155 = some 1 := by kernel_rfl
@[simp] theorem Tryz.info155 : Tryz.prog.info? 155 = some Tryz.t155 := by kernel_rfl
@[simp] theorem Tryz.tsize155 : Tryz.t155.size = 1 := by kernel_rfl
@[simp] theorem Tryz.tbytes155 : Tryz.t155.bytes = 0 := by kernel_rfl
@[simp] theorem Tryz.builder155 : builderTy Tryz.prog 155 = false := by kernel_rfl
@[simp] theorem Tryz.azero155 : azero Tryz.prog 155 = some (.tuple [.int .i64 (0), .bool false]) := by kernel_rfl
@[simp] theorem Tryz.asize156 : asize Tryz.prog 156 = some 1 := by kernel_rfl
@[simp] theorem Tryz.info156 : Tryz.prog.info? 156 = some Tryz.t156 := by kernel_rfl
@[simp] theorem Tryz.tsize156 : Tryz.t156.size = 1 := by kernel_rfl
@[simp] theorem Tryz.tbytes156 : Tryz.t156.bytes = 8 := by kernel_rfl
@[simp] theorem Tryz.builder156 : builderTy Tryz.prog 156 = false := by kernel_rfl
@[simp] theorem Tryz.azero156 : azero Tryz.prog 156 = some (.nilfunc) := by kernel_rfl
@[simp] theorem Tryz.asize157 : asize Tryz.prog 157 = some 1 := by kernel_rfl
@[simp] theorem Tryz.info157 : Tryz.prog.info? 157 = some Tryz.t157 := by kernel_rfl
@[simp] theorem Tryz.tsize157 : Tryz.t157.size = 1 := by kernel_rfl
@[simp] theorem Tryz.tbytes157 : Tryz.t157.bytes = 8 := by kernel_rfl
@[simp] theorem Tryz.builder157 : builderTy Tryz.prog 157 = false := by kernel_rfl
@[simp] theorem Tryz.azero157 : azero Tryz.prog 157 = some (.nilfunc) := by kernel_rfl
@[simp] theorem Tryz.asize158 : asize Tryz.prog 158 = some 1 := by kernel_rfl
@[simp] theorem Tryz.info158 : Tryz.prog.info? 158 = some Tryz.t158 := by kernel_rfl
@[simp] theorem Tryz.tsize158 : Tryz.t158.size = 1 := by kernel_rfl
@[simp] theorem Tryz.tbytes158 : Tryz.t158.bytes = 8 := by kernel_rfl
@[simp] theorem Tryz.builder158 : builderTy Tryz.prog 158 = false := by kernel_rfl
@[simp] theorem Tryz.azero158 : azero Tryz.prog 158 = some (.nilptr) := by kernel_rfl
@[simp] theorem Tryz.asize159 : asize Tryz.prog 159 = some 1 := by kernel_rfl
@[simp] theorem Tryz.info159 : Tryz.prog.info? 159 = some Tryz.t159 := by kernel_rfl
@[simp] theorem Tryz.tsize159 : Tryz.t159.size = 1 := by kernel_rfl
@[simp] theorem Tryz.tbytes159 : Tryz.t159.bytes = 8 := by kernel_rfl
@[simp] theorem Tryz.builder159 : builderTy Tryz.prog 159 = false := by kernel_rfl
@[simp] theorem Tryz.azero159 : azero Tryz.prog 159 = some (.nilfunc) := by kernel_rfl
@[simp] theorem Tryz.asize160 : asize Tryz.prog 160 = some 1 := by kernel_rfl
@[simp] theorem Tryz.info160 : Tryz.prog.info? 160 = some Tryz.t160 := by kernel_rfl
@[simp] theorem Tryz.tsize160 : Tryz.t160.size = 1 := by kernel_rfl
@[simp] theorem Tryz.tbytes160 : Tryz.t160.bytes = 8 := by kernel_rfl
@[simp] theorem Tryz.builder160 : builderTy Tryz.prog 160 = false := by kernel_rfl
@[simp] theorem Tryz.azero160 : azero Tryz.prog 160 = some (.nilptr) := by kernel_rfl
@[simp] theorem Tryz.asize161 : asize Tryz.prog 161 = some 6 := by kernel_rfl
@[simp] theorem Tryz.info161 : Tryz.prog.info? 161 = some Tryz.t161 := by kernel_rfl
@[simp] theorem Tryz.tsize161 : Tryz.t161.size = 6 := by kernel_rfl
@[simp] theorem Tryz.tbytes161 : Tryz.t161.bytes = 144 := by kernel_rfl
@[simp] theorem Tryz.builder161 : builderTy Tryz.prog 161 = false := by kernel_rfl
@[simp] theorem Tryz.azero161 : azero Tryz.prog 161 = some (.agg [.nilsl, .nilsl, .nilsl, .nilsl, .nilsl, .nilsl]) := by kernel_rfl
@[simp] theorem Tryz.asize162 : asize Tryz.prog 162 = some 6 := by kernel_rfl
@[simp] theorem Tryz.info162 : Tryz.prog.info? 162 = some Tryz.t162 := by kernel_rfl
@[simp] theorem Tryz.tsize162 : Tryz.t162.size = 6 := by kernel_rfl
@[simp] theorem Tryz.tbytes162 : Tryz.t162.bytes = 144 := by kernel_rfl
@[simp] theorem Tryz.builder162 : builderTy Tryz.prog 162 = false := by kernel_rfl
@[simp] theorem Tryz.azero162 : azero Tryz.prog 162 = some (.agg [.nilsl, .nilsl, .nilsl, .nilsl, .nilsl, .nilsl]) := by kernel_rfl
@[simp] theorem Tryz.asize163 : asize Tryz.prog 163 = some 1 := by kernel_rfl
@[simp] theorem Tryz.info163 : Tryz.prog.info? 163 = some Tryz.t163 := by kernel_rfl
@[simp] theorem Tryz.tsize163 : Tryz.t163.size = 1 := by kernel_rfl
@[simp] theorem Tryz.tbytes163 : Tryz.t163.bytes = 8 := by kernel_rfl
@[simp] theorem Tryz.builder163 : builderTy Tryz.prog 163 = false := by kernel_rfl
@[simp] theorem Tryz.azero163 : azero Tryz.prog 163 = some (.nilfunc) := by kernel_rfl
@[simp] theorem Tryz.asize164 : asize Tryz.prog 164 = some 1 := by kernel_rfl
@[simp] theorem Tryz.info164 : Tryz.prog.info? 164 = some Tryz.t164 := by kernel_rfl
@[simp] theorem Tryz.tsize164 : Tryz.t164.size = 1 := by kernel_rfl
@[simp] theorem Tryz.tbytes164 : Tryz.t164.bytes = 8 := by kernel_rfl
@[simp] theorem Tryz.builder164 : builderTy Tryz.prog 164 = false := by kernel_rfl
@[simp] theorem Tryz.azero164 : azero Tryz.prog 164 = some (.nilfunc) := by kernel_rfl
@[simp] theorem Tryz.asize165 : asize Tryz.prog 165 = some 1 := by kernel_rfl
@[simp] theorem Tryz.info165 : Tryz.prog.info? 165 = some Tryz.t165 := by kernel_rfl
@[simp] theorem Tryz.tsize165 : Tryz.t165.size = 1 := by kernel_rfl
@[simp] theorem Tryz.tbytes165 : Tryz.t165.bytes = 24 := by kernel_rfl
@[simp] theorem Tryz.builder165 : builderTy Tryz.prog 165 = false := by kernel_rfl
@[simp] theorem Tryz.azero165 : azero Tryz.prog 165 = some (.nilsl) := by kernel_rfl
@[simp] theorem Tryz.asize166 : asize Tryz.prog 166 = some 1 := by kernel_rfl
@[simp] theorem Tryz.info166 : Tryz.prog.info? 166 = some Tryz.t166 := by kernel_rfl
@[simp] theorem Tryz.tsize166 : Tryz.t166.size = 1 := by kernel_rfl
@[simp] theorem Tryz.tbytes166 : Tryz.t166.bytes = 24 := by kernel_rfl
@[simp] theorem Tryz.builder166 : builderTy Tryz.prog 166 = false := by kernel_rfl
@[simp] theorem Tryz.azero166 : azero Tryz.prog 166 = some (.nilsl) := by kernel_rfl
@[simp] theorem Tryz.asize167 : asize Tryz.prog 167 = some 3 := by kernel_rfl
@[simp] theorem Tryz.info167 : Tryz.prog.info? 167 = some Tryz.t167 := by kernel_rfl
@[simp] theorem Tryz.tsize167 : Tryz.t167.size = 3 := by kernel_rfl
@[simp] theorem Tryz.tbytes167 : Tryz.t167.bytes = 56 := by kernel_rfl
@[simp] theorem Tryz.builder167 : builderTy Tryz.prog 167 = false := by kernel_rfl
@[simp] theorem Tryz.azero167 : azero Tryz.prog 167 = some (.agg [.bool false, .nilsl, .nilsl]) := by kernel_rfl
@[simp] theorem Tryz.asize168 : asize Tryz.prog 168 = some 3 := by kernel_rfl
@[simp] theorem Tryz.info168 : Tryz.prog.info? 168 = some Tryz.t168 := by kernel_rfl
@[simp] theorem Tryz.tsize168 : Tryz.t168.size = 3 := by kernel_rfl
@[simp] theorem Tryz.tbytes168 : Tryz.t168.bytes = 56 := by kernel_rfl
@[simp] theorem Tryz.builder168 : builderTy Tryz.prog 168 = false := by kernel_rfl
@[simp] theorem Tryz.azero168 : azero Tryz.prog 168 = some (.agg [.bool false, .nilsl, .nilsl]) := by kernel_rfl
@[simp] theorem Tryz.asize169 : asize Tryz.prog 169 = some 1 := by kernel_rfl
@[simp] theorem Tryz.info169 : Tryz.prog.info? 169 = some Tryz.t169 := by kernel_rfl
@[simp] theorem Tryz.tsize169 : Tryz.t169.size = 1 := by kernel_rfl
@[simp] theorem Tryz.tbytes169 : Tryz.t169.bytes = 0 := by kernel_rfl
@[simp] theorem Tryz.builder169 : builderTy Tryz.prog 169 = false := by kernel_rfl
@[simp] theorem Tryz.asize170 : asize Tryz.prog 170 = some 1 := by kernel_rfl
@[simp] theorem Tryz.info170 : Tryz.prog.info? 170 = some Tryz.t170 := by kernel_rfl
@[simp] theorem Tryz.tsize170 : Tryz.t170.size = 1 := by kernel_rfl
@[simp] theorem Tryz.tbytes170 : Tryz.t170.bytes = 8 := by kernel_rfl
@[simp] theorem Tryz.builder170 : builderTy Tryz.prog 170 = false := by kernel_rfl
@[simp] theorem Tryz.azero170 : azero Tryz.prog 170 = some (.nilfunc) := by kernel_rfl
@[simp] theorem Tryz.asize171 : asize Tryz.prog 171 = some 1 := by kernel_rfl
@[simp] theorem Tryz.info171 : Tryz.prog.info? 171 = some Tryz.t171 := by kernel_rfl
@[simp] theorem Tryz.tsize171 : Tryz.t171.size = 1 := by kernel_rfl
@[simp] theorem Tryz.tbytes171 : Tryz.t171.bytes = 8 := by kernel_rfl
@[simp] theorem Tryz.builder171 : builderTy Tryz.prog 171 = false := by kernel_rfl
@[simp] theorem Tryz.azero171 : azero Tryz.prog 171 = some (.nilfunc) := by kernel_rfl
@[simp] theorem Tryz.asize172 : asize Tryz.prog 172 = some 1 := by kernel_rfl
@[simp] theorem Tryz.info172 : Tryz.prog.info? 172 = some Tryz.t172 := by kernel_rfl
@[simp] theorem Tryz.tsize172 : Tryz.t172.size = 1 := by kernel_rfl
@[simp] theorem Tryz.tbytes172 : Tryz.t172.bytes = 8 := by kernel_rfl
@[simp] theorem Tryz.builder172 : builderTy Tryz.prog 172 = false := by kernel_rfl
@[simp] theorem Tryz.azero172 : azero Tryz.prog 172 = some (.nilfunc) := by kernel_rfl
@[simp] theorem Tryz.asize173 : asize Tryz.prog 173 = some 1 := by kernel_rfl
@[simp] theorem Tryz.info173 : Tryz.prog.info? 173 = some Tryz.t173 := by kernel_rfl
@[simp] theorem Tryz.tsize173 : Tryz.t173.size = 1 := by kernel_rfl
@[simp] theorem Tryz.tbytes173 : Tryz.t173.bytes = 8 := by kernel_rfl
@[simp] theorem Tryz.builder173 : builderTy Tryz.prog 173 = false := by kernel_rfl
@[simp] theorem Tryz.azero173 : azero Tryz.prog 173 = some (.nilfunc) := by kernel_rfl
@[simp] theorem Tryz.asize174 : asize Tryz.prog 174 = some 1 := by kernel_rfl
@[simp] theorem Tryz.info174 : Tryz.prog.info? 174 = some Tryz.t174 := by kernel_rfl
@[simp] theorem Tryz.tsize174 : Tryz.t174.size = 1 := by kernel_rfl
@[simp] theorem Tryz.tbytes174 : Tryz.t174.bytes = 8 := by kernel_rfl
@[simp] theorem Tryz.builder174 : builderTy Tryz.prog 174 = false := by kernel_rfl
@[simp] theorem Tryz.azero174 : azero Tryz.prog 174 = some (.nilfunc) := by kernel_rfl
@[simp] theorem Tryz.asize175 : asize Tryz.prog 175 = some 1 := by kernel_rfl
@[simp] theorem Tryz.info175 : Tryz.prog.info? 175 = some Tryz.t175 := by kernel_rfl
@[simp] theorem Tryz.tsize175 : Tryz.t175.size = 1 := by kernel_rfl
@[simp] theorem Tryz.tbytes175 : Tryz.t175.bytes = 8 := by kernel_rfl
@[simp] theorem Tryz.builder175 : builderTy Tryz.prog 175 = false := by kernel_rfl
@[simp] theorem Tryz.azero175 : azero Tryz.prog 175 = some (.int .u64 (0)) := by kernel_rfl
@[simp] theorem Tryz.asize176 : asize Tryz.prog 176 = some 1 := by kernel_rfl
@[simp] theorem Tryz.info176 : Tryz.prog.info? 176 = some Tryz.t176 := by kernel_rfl
@[simp] theorem Tryz.tsize176 : Tryz.t176.size = 1 := by kernel_rfl
@[simp] theorem Tryz.tbytes176 : Tryz.t176.bytes = 8 := by kernel_rfl
@[simp] theorem Tryz.builder176 : builderTy Tryz.prog 176 = false := by kernel_rfl
@[simp] theorem Tryz.azero176 : azero Tryz.prog 176 = some (.nilfunc) := by kernel_rfl
@[simp] theorem Tryz.asize177 : asize Tryz.prog 177 = some 1 := by kernel_rfl
@[simp] theorem Tryz.info177 : Tryz.prog.info? 177 = some Tryz.t177 := by kernel_rfl
@[simp] theorem Tryz.tsize177 : Tryz.t177.size = 1 := by kernel_rfl
@[simp] theorem Tryz.tbytes177 : Tryz.t177.bytes = 8 := by kernel_rfl
@[simp] theorem Tryz.builder177 : builderTy Tryz.prog 177 = false := by kernel_rfl
@[simp] theorem Tryz.azero177 : azero Tryz.prog 177 = some (.nilfunc) := by kernel_rfl
@[simp] theorem Tryz.asize178 : asize Tryz.prog 178 = some 1 := by kernel_rfl
@[simp] theorem Tryz.info178 : Tryz.prog.info? 178 = some Tryz.t178 := by kernel_rfl
@[simp] theorem Tryz.tsize178 : Tryz.t178.size = 1 := by kernel_rfl
@[simp] theorem Tryz.tbytes178 : Tryz.t178.bytes = 8 := by kernel_rfl
@[simp] theorem Tryz.builder178 : builderTy Tryz.prog 178 = false := by kernel_rfl
@[simp] theorem Tryz.azero178 : azero Tryz.prog 178 = some (.nilfunc) := by kernel_rfl
@[simp] theorem Tryz.asize179 : asize Tryz.prog 179 = some 1 := by kernel_rfl
@[simp] theorem Tryz.info179 : Tryz.prog.info? 179 = some Tryz.t179 := by kernel_rfl
@[simp] theorem Tryz.tsize179 : Tryz.t179.size = 1 := by kernel_rfl
@[simp] theorem Tryz.tbytes179 : Tryz.t179.bytes = 8 := by kernel_rfl
@[simp] theorem Tryz.builder179 : builderTy Tryz.prog 179 = false := by kernel_rfl
@[simp] theorem Tryz.azero179 : azero Tryz.prog 179 = some (.nilfunc) := by kernel_rfl
@[simp] theorem Tryz.asize180 : asize Tryz.prog 180 = some 1 := by kernel_rfl
@[simp] theorem Tryz.info180 : Tryz.prog.info? 180 = some Tryz.t180 := by kernel_rfl
@[simp] theorem Tryz.tsize180 : Tryz.t180.size = 1 := by kernel_rfl
@[simp] theorem Tryz.tbytes180 : Tryz.t180.bytes = 8 := by kernel_rfl
@[simp] theorem Tryz.builder180 : builderTy Tryz.prog 180 = false := by kernel_rfl
@[simp] theorem Tryz.azero180 : azero Tryz.prog 180 = some (.nilfunc) := by kernel_rfl
@[simp] theorem Tryz.asize181 : asize Tryz.prog 181 = some 1 := by kernel_rfl
@[simp] theorem Tryz.info181 : Tryz.prog.info? 181 = some Tryz.t181 := by kernel_rfl
@[simp] theorem Tryz.tsize181 : Tryz.t181.size = 1 := by kernel_rfl
@[simp] theorem Tryz.tbytes181 : Tryz.t181.bytes = 8 := by kernel_rfl
@[simp] theorem Tryz.builder181 : builderTy Tryz.prog 181 = false := by kernel_rfl
@[simp] theorem Tryz.azero181 : azero Tryz.prog 181 = some (.nilfunc) := by kernel_rfl
@[simp] theorem Tryz.asize182 : asize Tryz.prog 182 = some 1 := by kernel_rfl
@[simp] theorem Tryz.info182 : Tryz.prog.info? 182 = some Tryz.t182 := by kernel_rfl
@[simp] theorem Tryz.tsize182 : Tryz.t182.size = 1 := by kernel_rfl
@[simp] theorem Tryz.tbytes182 : Tryz.t182.bytes = 8 := by kernel_rfl
@[simp] theorem Tryz.builder182 : builderTy Tryz.prog 182 = false := by kernel_rfl
@[simp] theorem Tryz.azero182 : azero Tryz.prog 182 = some (.nilfunc) := by kernel_rfl
@[simp] theorem Tryz.asize183 : asize Tryz.prog 183 = some 1 := by kernel_rfl
@[simp] theorem Tryz.info183 : Tryz.prog.info? 183 = some Tryz.t183 := by kernel_rfl
@[simp] theorem Tryz.tsize183 : Tryz.t183.size = 1 := by kernel_rfl
@[simp] theorem Tryz.tbytes183 : Tryz.t183.bytes = 8 := by kernel_rfl
@[simp] theorem Tryz.builder183 : builderTy Tryz.prog 183 = false := by kernel_rfl
@[simp] theorem Tryz.azero183 : azero Tryz.prog 183 = some (.nilfunc) := by kernel_rfl
@[simp] theorem Tryz.asize184 : asize Tryz.prog 184 = some 1 := by kernel_rfl
@[simp] theorem Tryz.info184 : Tryz.prog.info? 184 = some Tryz.t184 := by kernel_rfl
@[simp] theorem Tryz.tsize184 : Tryz.t184.size = 1 := by kernel_rfl
@[simp] theorem Tryz.tbytes184 : Tryz.t184.bytes = 8 := by kernel_rfl
@[simp] theorem Tryz.builder184 : builderTy Tryz.prog 184 = false := by kernel_rfl
@[simp] theorem Tryz.azero184 : azero Tryz.prog 184 = some (.nilmap) := by kernel_rfl
@[simp] theorem Tryz.asize185 : asize Tryz.prog 185 = some 2 := by kernel_rfl
@[simp] theorem Tryz.info185 : Tryz.prog.info? 185 = some Tryz.t185 := by kernel_rfl
@[simp] theorem Tryz.tsize185 : Tryz.t185.size = 2 := by kernel_rfl
@[simp] theorem Tryz.tbytes185 : Tryz.t185.bytes = 32 := by kernel_rfl
@[simp] theorem Tryz.builder185 : builderTy Tryz.prog 185 = false := by kernel_rfl
@[simp] theorem Tryz.azero185 : azero Tryz.prog 185 = some (.agg [.nilsl, .nilmap]) := by kernel_rfl
@[simp] theorem Tryz.asize186 : asize Tryz.prog 186 = some 2 := by kernel_rfl
@[simp] theorem Tryz.info186 : Tryz.prog.info? 186 = some Tryz.t186 := by kernel_rfl
@[simp] theorem Tryz.tsize186 : Tryz.t186.size = 2 := by kernel_rfl
@[simp] theorem Tryz.tbytes186 : Tryz.t186.bytes = 32 := by kernel_rfl
@[simp] theorem Tryz.builder186 : builderTy Tryz.prog 186 = false := by kernel_rfl
@[simp] theorem Tryz.azero186 : azero Tryz.prog 186 = some (.agg [.nilsl, .nilmap]) := by kernel_rfl
@[simp] theorem Tryz.asize187 : asize Tryz.prog 187 = some 1 := by kernel_rfl
@[simp] theorem Tryz.info187 : Tryz.prog.info? 187 = some Tryz.t187 := by kernel_rfl
@[simp] theorem Tryz.tsize187 : Tryz.t187.size = 1 := by kernel_rfl
@[simp] theorem Tryz.tbytes187 : Tryz.t187.bytes = 8 := by kernel_rfl
@[simp] theorem Tryz.builder187 : builderTy Tryz.prog 187 = false := by kernel_rfl
@[simp] theorem Tryz.azero187 : azero Tryz.prog 187 = some (.nilfunc) := by kernel_rfl
@[simp] theorem Tryz.asize188 : asize Tryz.prog 188 = some 1 := by kernel_rfl
@[simp] theorem Tryz.info188 : Tryz.prog.info? 188 = some Tryz.t188 := by kernel_rfl
@[simp] theorem Tryz.tsize188 : Tryz.t188.size = 1 := by kernel_rfl
@[simp] theorem Tryz.tbytes188 : Tryz.t188.bytes = 8 := by kernel_rfl
@[simp] theorem Tryz.builder188 : builderTy Tryz.prog 188 = false := by kernel_rfl
@[simp] theorem Tryz.azero188 : azero Tryz.prog 188 = some (.nilfunc) := by kernel_rfl
@[simp] theorem Tryz.asize189 : asize Tryz.prog 189 = some 1 := by kernel_rfl
@[simp] theorem Tryz.info189 : Tryz.prog.info? 189 = some Tryz.t189 := by kernel_rfl
@[simp] theorem Tryz.tsize189 : Tryz.t189.size = 1 := by kernel_rfl
@[simp] theorem Tryz.tbytes189 : Tryz.t189.bytes = 8 := by kernel_rfl
@[simp] theorem Tryz.builder189 : builderTy Tryz.prog 189 = false := by kernel_rfl
@[simp] theorem Tryz.azero189 : azero Tryz.prog 189 = some (.nilptr) := by kernel_rfl
@[simp] theorem Tryz.asize190 : asize Tryz.prog 190 = some 1 := by kernel_rfl
@[simp] theorem Tryz.info190 : Tryz.prog.info? 190 = some Tryz.t190 := by kernel_rfl
@[simp] theorem Tryz.tsize190 : Tryz.t190.size = 1 := by kernel_rfl
@[simp] theorem Tryz.tbytes190 : Tryz.t190.bytes = 0 := by kernel_rfl
@[simp] theorem Tryz.builder190 : builderTy Tryz.prog 190 = false := by kernel_rfl
@[simp] theorem Tryz.azero190 : azero Tryz.prog 190 = some (.tuple [.int .i64 (0), .int .i64 (0)]) := by kernel_rfl
@[simp] theorem Tryz.asize191 : asize Tryz.prog 191 = some 1 := by kernel_rfl
@[simp] theorem Tryz.info191 : Tryz.prog.info? 191 = some Tryz.t191 := by kernel_rfl
@[simp] theorem Tryz.tsize191 : Tryz.t191.size = 1 := by kernel_rfl
@[simp] theorem Tryz.tbytes191 : Tryz.t191.bytes = 8 := by kernel_rfl
@[simp] theorem Tryz.builder191 : builderTy Tryz.prog 191 = false := by kernel_rfl
@[simp] theorem Tryz.azero191 : azero Tryz.prog 191 = some (.nilfunc) := by kernel_rfl
@[simp] theorem Tryz.asize192 : asize Tryz.prog 192 = some 1 := by kernel_rfl
@[simp] theorem Tryz.info192 : Tryz.prog.info? 192 = some Tryz.t192 := by kernel_rfl
@[simp] theorem Tryz.tsize192 : Tryz.t192.size = 1 := by kernel_rfl
@[simp] theorem Tryz.tbytes192 : Tryz.t192.bytes = 8 := by kernel_rfl
@[simp] theorem Tryz.builder192 : builderTy Tryz.prog 192 = false := by kernel_rfl
@[simp] theorem Tryz.azero192 : azero Tryz.prog 192 = some (.nilfunc) := by kernel_rfl
@[simp] theorem Tryz.asize193 : asize Tryz.prog 193 = some 10 := by kernel_rfl
@[simp] theorem Tryz.info193 : Tryz.prog.info? 193 = some Tryz.t193 := by kernel_rfl
@[simp] theorem Tryz.tsize193 : Tryz.t193.size = 10 := by kernel_rfl
@[simp] theorem Tryz.tbytes193 : Tryz.t193.bytes = 144 := by kernel_rfl
@[simp] theorem Tryz.builder193 : builderTy Tryz.prog 193 = false := by kernel_rfl
@[simp] theorem Tryz.azero193 : azero Tryz.prog 193 = some (.agg [.int .i64 (0), .int .i64 (0), .str [], .str [], .int .i64 (0), .int .i64 (0), .nilsl, .nilsl, .nilsl, .bool false]) := by kernel_rfl
@[simp] theorem Tryz.asize194 : asize Tryz.prog 194 = some 10 := by kernel_rfl
@[simp] theorem Tryz.info194 : Tryz.prog.info? 194 = some Tryz.t194 := by kernel_rfl
@[simp] theorem Tryz.tsize194 : Tryz.t194.size = 10 := by kernel_rfl
@[simp] theorem Tryz.tbytes194 : Tryz.t194.bytes = 144 := by kernel_rfl
@[simp] theorem Tryz.builder194 : builderTy Tryz.prog 194 = false := by kernel_rfl
@[simp] theorem Tryz.azero194 : azero Tryz.prog 194 = some (.agg [.int .i64 (0), .int .i64 (0), .str [], .str [], .int .i64 (0), .int .i64 (0), .nilsl, .nilsl, .nilsl, .bool false]) := by kernel_rfl
@[simp] theorem Tryz.asize195 : asize Tryz.prog 195 = some 1 := by kernel_rfl
@[simp] theorem Tryz.info195 : Tryz.prog.info? 195 = some Tryz.t195 := by kernel_rfl
@[simp] theorem Tryz.tsize195 : Tryz.t195.size = 1 := by kernel_rfl
@[simp] theorem Tryz.tbytes195 : Tryz.t195.bytes = 8 := by kernel_rfl
@[simp] theorem Tryz.builder195 : builderTy Tryz.prog 195 = false := by kernel_rfl
@[simp] theorem Tryz.azero195 : azero Tryz.prog 195 = some (.nilfunc) := by kernel_rfl
@[simp] theorem Tryz.asize196 : asize Tryz.prog 196 = some 1 := by kernel_rfl
@[simp] theorem Tryz.info196 : Tryz.prog.info? 196 = some Tryz.t196 := by kernel_rfl
@[simp] theorem Tryz.tsize196 : Tryz.t196.size = 1 := by kernel_rfl
@[simp] theorem Tryz.tbytes196 : Tryz.t196.bytes = 8 := by kernel_rfl
@[simp] theorem Tryz.builder196 : builderTy Tryz.prog 196 = false := by kernel_rfl
@[simp] theorem Tryz.azero196 : azero Tryz.prog 196 = some (.nilfunc) := by kernel_rfl
@[simp] theorem Tryz.asize197 : asize Tryz.prog 197 = some 1 := by kernel_rfl
@[simp] theorem Tryz.info197 : Tryz.prog.info? 197 = some Tryz.t197 := by kernel_rfl
@[simp] theorem Tryz.tsize197 : Tryz.t197.size = 1 := by kernel_rfl
@[simp] theorem Tryz.tbytes197 : Tryz.t197.bytes = 8 := by kernel_rfl
@[simp] theorem Tryz.builder197 : builderTy Tryz.prog 197 = false := by kernel_rfl
@[simp] theorem Tryz.azero197 : azero Tryz.prog 197 = some (.nilfunc) := by kernel_rfl
@[simp] theorem Tryz.asize198 : asize Tryz.prog 198 = some 1 := by kernel_rfl
@[simp] theorem Tryz.info198 : Tryz.prog.info? 198 = some Tryz.t198 := by kernel_rfl
@[simp] theorem Tryz.tsize198 : Tryz.t198.size = 1 := by kernel_rfl
@[simp] theorem Tryz.tbytes198 : Tryz.t198.bytes = 8 := by kernel_rfl
@[simp] theorem Tryz.builder198 : builderTy Tryz.prog 198 = false := by kernel_rfl
@[simp] theorem Tryz.azero198 : azero Tryz.prog 198 = some (.nilfunc) := by kernel_rfl
@[simp] theorem Tryz.asize199 : asize Tryz.prog 199 = some 1 := by kernel_rfl
@[simp] theorem Tryz.info199 : Tryz.prog.info? 199 = some Tryz.t199 := by kernel_rfl
@[simp] theorem Tryz.tsize199 : Tryz.t199.size = 1 := by kernel_rfl
@[simp] theorem Tryz.tbytes199 : Tryz.t199.bytes = 8 := by kernel_rfl
@[simp] theorem Tryz.builder199 : builderTy Tryz.prog 199 = false := by kernel_rfl
@[simp] theorem Tryz.azero199 : azero Tryz.prog 199 = some (.nilfunc) := by kernel_rfl
@[simp] theorem Tryz.asize200 : asize Tryz.prog 200 = some 1 := by kernel_rfl
@[simp] theorem Tryz.info200 : Tryz.prog.info? 200 = some Tryz.t200 := by kernel_rfl
@[simp] theorem Tryz.tsize200 : Tryz.t200.size = 1 := by kernel_rfl
@[simp] theorem Tryz.tbytes200 : Tryz.t200.bytes = 8 := by kernel_rfl
@[simp] theorem Tryz.builder200 : builderTy Tryz.prog 200 = false := by kernel_rfl
@[simp] theorem Tryz.azero200 : azero Tryz.prog 200 = some (.nilfunc) := by kernel_rfl
@[simp] theorem Tryz.asize201 : asize Tryz.prog 201 = some 1 := by kernel_rfl
@[simp] theorem Tryz.info201 : Tryz.prog.info? 201 = some Tryz.t201 := by kernel_rfl
@[simp] theorem Tryz.tsize201 : Tryz.t201.size = 1 := by kernel_rfl
@[simp] theorem Tryz.tbytes201 : Tryz.t201.bytes = 8 := by kernel_rfl
@[simp] theorem Tryz.builder201 : builderTy Tryz.prog 201 = false := by kernel_rfl
@[simp] theorem Tryz.azero201 : azero Tryz.prog 201 = some (.nilfunc) := by kernel_rfl
@[simp] theorem Tryz.asize202 : asize Tryz.prog 202 = some 2 := by kernel_rfl
@[simp] theorem Tryz.info202 : Tryz.prog.info? 202 = some Tryz.t202 := by kernel_rfl
@[simp] theorem Tryz.tsize202 : Tryz.t202.size = 2 := by kernel_rfl
@[simp] theorem Tryz.tbytes202 : Tryz.t202.bytes = 32 := by kernel_rfl
@[simp] theorem Tryz.builder202 : builderTy Tryz.prog 202 = false := by kernel_rfl
@[simp] theorem Tryz.azero202 : azero Tryz.prog 202 = some (.agg [.int .i64 (0), .nilsl]) := by kernel_rfl
@[simp] theorem Tryz.asize203 : asize Tryz.prog 203 = some 2 := by kernel_rfl
@[simp] theorem Tryz.info203 : Tryz.prog.info? 203 = some Tryz.t203 := by kernel_rfl
@[simp] theorem Tryz.tsize203 : Tryz.t203.size = 2 := by kernel_rfl
@[simp] theorem Tryz.tbytes203 : Tryz.t203.bytes = 32 := by kernel_rfl
@[simp] theorem Tryz.builder203 : builderTy Tryz.prog 203 = false := by kernel_rfl
@[simp] theorem Tryz.azero203 : azero Tryz.prog 203 = some (.agg [.int .i64 (0), .nilsl]) := by kernel_rfl
@[simp] theorem Tryz.asize204 : asize Tryz.prog 204 = some 1 := by kernel_rfl
@[simp] theorem Tryz.info204 : Tryz.prog.info? 204 = some Tryz.t204 := by kernel_rfl
@[simp] theorem Tryz.tsize204 : Tryz.t204.size = 1 := by kernel_rfl
@[simp] theorem Tryz.tbytes204 : Tryz.t204.bytes = 8 := by kernel_rfl
@[simp] theorem Tryz.builder204 : builderTy Tryz.prog 204 = false := by kernel_rfl
@[simp] theorem Tryz.azero204 : azero Tryz.prog 204 = some (.nilfunc) := by kernel_rfl
@[simp] theorem Tryz.asize205 : asize Tryz.prog 205 = some 1 := by kernel_rfl
@[simp] theorem Tryz.info205 : Tryz.prog.info? 205 = some Tryz.t205 := by kernel_rfl
@[simp] theorem Tryz.tsize205 : Tryz.t205.size = 1 := by kernel_rfl
@[simp] theorem Tryz.tbytes205 : Tryz.t205.bytes = 8 := by kernel_rfl
@[simp] theorem Tryz.builder205 : builderTy Tryz.prog 205 = false := by kernel_rfl
@[simp] theorem Tryz.azero205 : azero Tryz.prog 205 = some (.nilfunc) := by kernel_rfl
@[simp] theorem Tryz.asize206 : asize Tryz.prog 206 = some 1 := by kernel_rfl
@[simp] theorem Tryz.info206 : Tryz.prog.info? 206 = some Tryz.t206 := by kernel_rfl
@[simp] theorem Tryz.tsize206 : Tryz.t206.size = 1 := by kernel_rfl
@[simp] theorem Tryz.tbytes206 : Tryz.t206.bytes = 8 := by kernel_rfl
@[simp] theorem Tryz.builder206 : builderTy Tryz.prog 206 = false := by kernel_rfl
@[simp] theorem Tryz.azero206 : azero Tryz.prog 206 = some (.nilfunc) := by kernel_rfl
@[simp] theorem Tryz.asize207 : asize Tryz.prog 207 = some 1 := by kernel_rfl
@[simp] theorem Tryz.info207 : Tryz.prog.info? 207 = some Tryz.t207 := by kernel_rfl
@[simp] theorem Tryz.tsize207 : Tryz.t207.size = 1 := by kernel_rfl
@[simp] theorem Tryz.tbytes207 : Tryz.t207.bytes = 8 := by kernel_rfl
@[simp] theorem Tryz.builder207 : builderTy Tryz.prog 207 = false := by kernel_rfl
@[simp] theorem Tryz.azero207 : azero Tryz.prog 207 = some (.nilfunc) := by kernel_rfl
@[simp] theorem Tryz.asize208 : asize Tryz.prog 208 = some 1 := by kernel_rfl
@[simp] theorem Tryz.info208 : Tryz.prog.info? 208 = some Tryz.t208 := by kernel_rfl
@[simp] theorem Tryz.tsize208 : Tryz.t208.size = 1 := by kernel_rfl
@[simp] theorem Tryz.tbytes208 : Tryz.t208.bytes = 8 := by kernel_rfl
@[simp] theorem Tryz.builder208 : builderTy Tryz.prog 208 = false := by kernel_rfl
@[simp] theorem Tryz.azero208 : azero Tryz.prog 208 = some (.nilfunc) := by kernel_rfl
@[simp] theorem Tryz.asize209 : asize Tryz.prog 209 = some 1 := by kernel_rfl
@[simp] theorem Tryz.info209 : Tryz.prog.info? 209 = some Tryz.t209 := by kernel_rfl
@[simp] theorem Tryz.tsize209 : Tryz.t209.size = 1 := by kernel_rfl
@[simp] theorem Tryz.tbytes209 : Tryz.t209.bytes = 8 := by kernel_rfl
@[simp] theorem Tryz.builder209 : builderTy Tryz.prog 209 = false := by kernel_rfl
@[simp] theorem Tryz.azero209 : azero Tryz.prog 209 = some (.nilfunc) := by kernel_rfl
@[simp] theorem Tryz.asize210 : asize Tryz.prog 210 = some 1 := by kernel_rfl
@[simp] theorem Tryz.info210 : Tryz.prog.info? 210 = some Tryz.t210 := by kernel_rfl
@[simp] theorem Tryz.tsize210 : Tryz.t210.size = 1 := by kernel_rfl
@[simp] theorem Tryz.tbytes210 : Tryz.t210.bytes = 8 := by kernel_rfl
@[simp] theorem Tryz.builder210 : builderTy Tryz.prog 210 = false := by kernel_rfl
@[simp] theorem Tryz.azero210 : azero Tryz.prog 210 = some (.nilfunc) := by kernel_rfl
@[simp] theorem Tryz.asize211 : asize Tryz.prog 211 = some 1 := by kernel_rfl
@[simp] theorem Tryz.info211 : Tryz.prog.info? 211 = some Tryz.t211 := by kernel_rfl
@[simp] theorem Tryz.tsize211 : Tryz.t211.size = 1 := by kernel_rfl
@[simp] theorem Tryz.tbytes211 : Tryz.t211.bytes = 0 := by kernel_rfl
@[simp] theorem Tryz.builder211 : builderTy Tryz.prog 211 = false := by kernel_rfl
@[simp] theorem Tryz.azero211 : azero Tryz.prog 211 = some (.tuple [.nilsl, .bool false, .bool false]) := by kernel_rfl
@[simp] theorem Tryz.asize212 : asize Tryz.prog 212 = some 1 := by kernel_rfl
@[simp] theorem Tryz.info212 : Tryz.prog.info? 212 = some Tryz.t212 := by kernel_rfl
@[simp] theorem Tryz.tsize212 : Tryz.t212.size = 1 := by kernel_rfl
@[simp] theorem Tryz.tbytes212 : Tryz.t212.bytes = 8 := by kernel_rfl
@[simp] theorem Tryz.builder212 : builderTy Tryz.prog 212 = false := by kernel_rfl
@[simp] theorem Tryz.azero212 : azero Tryz.prog 212 = some (.nilfunc) := by kernel_rfl
@[simp] theorem Tryz.asize213 : asize Tryz.prog 213 = some 1 := by kernel_rfl
@[simp] theorem Tryz.info213 : Tryz.prog.info? 213 = some Tryz.t213 := by kernel_rfl
@[simp] theorem Tryz.tsize213 : Tryz.t213.size = 1 := by kernel_rfl
@[simp] theorem Tryz.tbytes213 : Tryz.t213.bytes = 8 := by kernel_rfl
@[simp] theorem Tryz.builder213 : builderTy Tryz.prog 213 = false := by kernel_rfl
@[simp] theorem Tryz.azero213 : azero Tryz.prog 213 = some (.nilfunc) := by kernel_rfl
@[simp] theorem Tryz.asize214 : asize Tryz.prog 214 = some 2 := by kernel_rfl
@[simp] theorem Tryz.info214 : Tryz.prog.info? 214 = some Tryz.t214 := by kernel_rfl
@[simp] theorem Tryz.tsize214 : Tryz.t214.size = 2 := by kernel_rfl
@[simp] theorem Tryz.tbytes214 : Tryz.t214.bytes = 24 := by kernel_rfl
@[simp] theorem Tryz.builder214 : builderTy Tryz.prog 214 = false := by kernel_rfl
@[simp] theorem Tryz.azero214 : azero Tryz.prog 214 = some (.agg [.str [], .bool false]) := by kernel_rfl
@[simp] theorem Tryz.asize215 : asize Tryz.prog 215 = some 2 := by kernel_rfl
@[simp] theorem Tryz.info215 : Tryz.prog.info? 215 = some Tryz.t215 := by kernel_rfl
@[simp] theorem Tryz.tsize215 : Tryz.t215.size = 2 := by kernel_rfl
@[simp] theorem Tryz.tbytes215 : Tryz.t215.bytes = 24 := by kernel_rfl
@[simp] theorem Tryz.builder215 : builderTy Tryz.prog 215 = false := by kernel_rfl
@[simp] theorem Tryz.azero215 : azero Tryz.prog 215 = some (.agg [.str [], .bool false]) := by kernel_rfl
@[simp] theorem Tryz.asize216 : asize Tryz.prog 216 = some 1 := by kernel_rfl
@[simp] theorem Tryz.info216 : Tryz.prog.info? 216 = some Tryz.t216 := by kernel_rfl
@[simp] theorem Tryz.tsize216 : Tryz.t216.size = 1 := by kernel_rfl
@[simp] theorem Tryz.tbytes216 : Tryz.t216.bytes = 0 := by kernel_rfl
@[simp] theorem Tryz.builder216 : builderTy Tryz.prog 216 = false := by kernel_rfl
@[simp] theorem Tryz.asize217 : asize Tryz.prog 217 = some 1 := by kernel_rfl
@[simp] theorem Tryz.info217 : Tryz.prog.info? 217 = some Tryz.t217 := by kernel_rfl
@[simp] theorem Tryz.tsize217 : Tryz.t217.size = 1 := by kernel_rfl
@[simp] theorem Tryz.tbytes217 : Tryz.t217.bytes = 8 := by kernel_rfl
@[simp] theorem Tryz.builder217 : builderTy Tryz.prog 217 = false := by kernel_rfl
@[simp] theorem Tryz.azero217 : azero Tryz.prog 217 = some (.nilfunc) := by kernel_rfl
@[simp] theorem Tryz.asize218 : asize Tryz.prog 218 = some 1 := by kernel_rfl
@[simp] theorem Tryz.info218 : Tryz.prog.info? 218 = some Tryz.t218 := by kernel_rfl
@[simp] theorem Tryz.tsize218 : Tryz.t218.size = 1 := by kernel_rfl
@[simp] theorem Tryz.tbytes218 : Tryz.t218.bytes = 8 := by kernel_rfl
@[simp] theorem Tryz.builder218 : builderTy Tryz.prog 218 = false := by kernel_rfl
@[simp] theorem Tryz.azero218 : azero Tryz.prog 218 = some (.nilfunc) := by kernel_rfl
@[simp] theorem Tryz.asize219 : asize Tryz.prog 219 = some 1 := by kernel_rfl
@[simp] theorem Tryz.info219 : Tryz.prog.info? 219 = some Tryz.t219 := by kernel_rfl
@[simp] theorem Tryz.tsize219 : Tryz.t219.size = 1 := by kernel_rfl
@[simp] theorem Tryz.tbytes219 : Tryz.t219.bytes = 8 := by kernel_rfl
@[simp] theorem Tryz.builder219 : builderTy Tryz.prog 219 = false := by kernel_rfl
@[simp] theorem Tryz.azero219 : azero Tryz.prog 219 = some (.nilfunc) := by kernel_rfl
@[simp] theorem Tryz.asize220 : asize Tryz.prog 220 = some 1 := by kernel_rfl
@[simp] theorem Tryz.info220 : Tryz.prog.info? 220 = some Tryz.t220 := by kernel_rfl
@[simp] theorem Tryz.tsize220 : Tryz.t220.size = 1 := by kernel_rfl
@[simp] theorem Tryz.tbytes220 : Tryz.t220.bytes = 8 := by kernel_rfl
@[simp] theorem Tryz.builder220 : builderTy Tryz.prog 220 = false := by kernel_rfl
@[simp] theorem Tryz.azero220 : azero Tryz.prog 220 = some (.nilfunc) := by kernel_rfl
@[simp] theorem Tryz.asize221 : asize Tryz.prog 221 = some 1 := by kernel_rfl
@[simp] theorem Tryz.info221 : Tryz.prog.info? 221 = some Tryz.t221 := by kernel_rfl
@[simp] theorem Tryz.tsize221 : Tryz.t221.size = 1 := by kernel_rfl
@[simp] theorem Tryz.tbytes221 : Tryz.t221.bytes = 8 := by kernel_rfl
@[simp] theorem Tryz.builder221 : builderTy Tryz.prog 221 = false := by kernel_rfl
@[simp] theorem Tryz.azero221 : azero Tryz.prog 221 = some (.nilfunc) := by kernel_rfl
@[simp] theorem Tryz.asize222 : asize Tryz.prog 222 = some 1 := by kernel_rfl
@[simp] theorem Tryz.info222 : Tryz.prog.info? 222 = some Tryz.t222 := by kernel_rfl
@[simp] theorem Tryz.tsize222 : Tryz.t222.size = 1 := by kernel_rfl
@[simp] theorem Tryz.tbytes222 : Tryz.t222.bytes = 8 := by kernel_rfl
@[simp] theorem Tryz.builder222 : builderTy Tryz.prog 222 = false := by kernel_rfl
@[simp] theorem Tryz.azero222 : azero Tryz.prog 222 = some (.nilfunc) := by kernel_rfl
@[simp] theorem Tryz.asize223 : asize Tryz.prog 223 = some 1 := by kernel_rfl
@[simp] theorem Tryz.info223 : Tryz.prog.info? 223 = some Tryz.t223 := by kernel_rfl
@[simp] theorem Tryz.tsize223 : Tryz.t223.size = 1 := by kernel_rfl
@[simp] theorem Tryz.tbytes223 : Tryz.t223.bytes = 8 := by kernel_rfl
@[simp] theorem Tryz.builder223 : builderTy Tryz.prog 223 = false := by kernel_rfl
@[simp] theorem Tryz.azero223 : azero Tryz.prog 223 = some (.nilfunc) := by kernel_rfl
@[simp] theorem Tryz.asize224 : asize Tryz.prog 224 = some 1 := by kernel_rfl
@[simp] theorem Tryz.info224 : Tryz.prog.info? 224 = some Tryz.t224 := by kernel_rfl
@[simp] theorem Tryz.tsize224 : Tryz.t224.size = 1 := by kernel_rfl
@[simp] theorem Tryz.tbytes224 : Tryz.t224.bytes = 8 := by kernel_rfl
@[simp] theorem Tryz.builder224 : builderTy Tryz.prog 224 = false := by kernel_rfl
@[simp] theorem Tryz.azero224 : azero Tryz.prog 224 = some (.nilfunc) := by kernel_rfl
@[simp] theorem Tryz.asize225 : asize Tryz.prog 225 = some 1 := by kernel_rfl
@[simp] theorem Tryz.info225 : Tryz.prog.info? 225 = some Tryz.t225 := by kernel_rfl
@[simp] theorem Tryz.tsize225 : Tryz.t225.size = 1 := by kernel_rfl
@[simp] theorem Tryz.tbytes225 : Tryz.t225.bytes = 8 := by kernel_rfl
@[simp] theorem Tryz.builder225 : builderTy Tryz.prog 225 = false := by kernel_rfl
@[simp] theorem Tryz.azero225 : azero Tryz.prog 225 = some (.nilfunc) := by kernel_rfl
@[simp] theorem Tryz.asize226 : asize Tryz.prog 226 = some 1 := by kernel_rfl
@[simp] theorem Tryz.info226 : Tryz.prog.info? 226 = some Tryz.t226 := by kernel_rfl
@[simp] theorem Tryz.tsize226 : Tryz.t226.size = 1 := by kernel_rfl
@[simp] theorem Tryz.tbytes226 : Tryz.t226.bytes = 8 := by kernel_rfl
@[simp] theorem Tryz.builder226 : builderTy Tryz.prog 226 = false := by kernel_rfl
@[simp] theorem Tryz.azero226 : azero Tryz.prog 226 = some (.nilfunc) := by kernel_rfl
@[simp] theorem Tryz.asize227 : asize Tryz.prog 227 = some 1 := by kernel_rfl
@[simp] theorem Tryz.info227 : Tryz.prog.info? 227 = some Tryz.t227 := by kernel_rfl
@[simp] theorem Tryz.tsize227 : Tryz.t227.size = 1 := by kernel_rfl
@[simp] theorem Tryz.tbytes227 : Tryz.t227.bytes = 8 := by kernel_rfl
@[simp] theorem Tryz.builder227 : builderTy Tryz.prog 227 = false := by kernel_rfl
@[simp] theorem Tryz.azero227 : azero Tryz.prog 227 = some (.nilfunc) := by kernel_rfl
@[simp] theorem Tryz.asize228 : asize Tryz.prog 228 = some 1 := by kernel_rfl
@[simp] theorem Tryz.info228 : Tryz.prog.info? 228 = some Tryz.t228 := by kernel_rfl
@[simp] theorem Tryz.tsize228 : Tryz.t228.size = 1 := by kernel_rfl
@[simp] theorem Tryz.tbytes228 : Tryz.t228.bytes = 8 := by kernel_rfl
@[simp] theorem Tryz.builder228 : builderTy Tryz.prog 228 = false := by kernel_rfl
@[simp] theorem Tryz.azero228 : azero Tryz.prog 228 = some (.nilfunc) := by kernel_rfl
@[simp] theorem Tryz.asize229 : asize Tryz.prog 229 = some 1 := by kernel_rfl
@[simp] theorem Tryz.info229 : Tryz.prog.info? 229 = some Tryz.t229 := by kernel_rfl
@[simp] theorem Tryz.tsize229 : Tryz.t229.size = 1 := by kernel_rfl
@[simp] theorem Tryz.tbytes229 : Tryz.t229.bytes = 8 := by kernel_rfl
@[simp] theorem Tryz.builder229 : builderTy Tryz.prog 229 = false := by kernel_rfl
@[simp] theorem Tryz.azero229 : azero Tryz.prog 229 = some (.nilfunc) := by kernel_rfl
@[simp] theorem Tryz.asize230 : asize Tryz.prog 230 = some 1 := by kernel_rfl
@[simp] theorem Tryz.info230 : Tryz.prog.info? 230 = some Tryz.t230 := by kernel_rfl
@[simp] theorem Tryz.tsize230 : Tryz.t230.size = 1 := by kernel_rfl
@[simp] theorem Tryz.tbytes230 : Tryz.t230.bytes = 8 := by kernel_rfl
@[simp] theorem Tryz.builder230 : builderTy Tryz.prog 230 = false := by kernel_rfl
@[simp] theorem Tryz.azero230 : azero Tryz.prog 230 = some (.nilfunc) := by kernel_rfl
@[simp] theorem Tryz.asize231 : asize Tryz.prog 231 = some 1 := by kernel_rfl
@[simp] theorem Tryz.info231 : Tryz.prog.info? 231 = some Tryz.t231 := by kernel_rfl
@[simp] theorem Tryz.tsize231 : Tryz.t231.size = 1 := by kernel_rfl
@[simp] theorem Tryz.tbytes231 : Tryz.t231.bytes = 8 := by kernel_rfl
@[simp] theorem Tryz.builder231 : builderTy Tryz.prog 231 = false := by kernel_rfl
@[simp] theorem Tryz.azero231 : azero Tryz.prog 231 = some (.nilfunc) := by kernel_rfl
@[simp] theorem Tryz.asize232 : asize Tryz.prog 232 = some 1 := by kernel_rfl
@[simp] theorem Tryz.info232 : Tryz.prog.info? 232 = some Tryz.t232 := by kernel_rfl
@[simp] theorem Tryz.tsize232 : Tryz.t232.size = 1 := by kernel_rfl
@[simp] theorem Tryz.tbytes232 : Tryz.t232.bytes = 24 := by kernel_rfl
@[simp] theorem Tryz.builder232 : builderTy Tryz.prog 232 = false := by kernel_rfl
@[simp] theorem Tryz.azero232 : azero Tryz.prog 232 = some (.nilsl) := by kernel_rfl
@[simp] theorem Tryz.asize233 : asize Tryz.prog 233 = some 1 := by kernel_rfl
@[simp] theorem Tryz.info233 : Tryz.prog.info? 233 = some Tryz.t233 := by kernel_rfl
@[simp] theorem Tryz.tsize233 : Tryz.t233.size = 1 := by kernel_rfl
@[simp] theorem Tryz.tbytes233 : Tryz.t233.bytes = 8 := by kernel_rfl
@[simp] theorem Tryz.builder233 : builderTy Tryz.prog 233 = false := by kernel_rfl
@[simp] theorem Tryz.azero233 : azero Tryz.prog 233 = some (.nilfunc) := by kernel_rfl
@[simp] theorem Tryz.asize234 : asize Tryz.prog 234 = some 1 := by kernel_rfl
@[simp] theorem Tryz.info234 : Tryz.prog.info? 234 = some Tryz.t234 := by kernel_rfl
@[simp] theorem Tryz.tsize234 : Tryz.t234.size = 1 := by kernel_rfl
@[simp] theorem Tryz.tbytes234 : Tryz.t234.bytes = 8 := by kernel_rfl
@[simp] theorem Tryz.builder234 : builderTy Tryz.prog 234 = false := by kernel_rfl
@[simp] theorem Tryz.azero234 : azero Tryz.prog 234 = some (.nilfunc) := by kernel_rfl
@[simp] theorem Tryz.asize235 : asize Tryz.prog 235 = some 1 := by kernel_rfl
@[simp] theorem Tryz.info235 : Tryz.prog.info? 235 = some Tryz.t235 := by kernel_rfl
@[simp] theorem Tryz.tsize235 : Tryz.t235.size = 1 := by kernel_rfl
@[simp] theorem Tryz.tbytes235 : Tryz.t235.bytes = 8 := by kernel_rfl
@[simp] theorem Tryz.builder235 : builderTy Tryz.prog 235 = false := by kernel_rfl
@[simp] theorem Tryz.azero235 : azero Tryz.prog 235 = some (.nilfunc) := by kernel_rfl
@[simp] theorem Tryz.asize236 : asize Tryz.prog 236 = some 1 := by kernel_rfl
@[simp] theorem Tryz.info236 : Tryz.prog.info? 236 = some Tryz.t236 := by kernel_rfl
@[simp] theorem Tryz.tsize236 : Tryz.t236.size = 1 := by kernel_rfl
@[simp] theorem Tryz.tbytes236 : Tryz.t236.bytes = 8 := by kernel_rfl
@[simp] theorem Tryz.builder236 : builderTy Tryz.prog 236 = false := by kernel_rfl
@[simp] theorem Tryz.azero236 : azero Tryz.prog 236 = some (.nilfunc) := by kernel_rfl
@[simp] theorem Tryz.asize237 : asize Tryz.prog 237 = some 1 := by kernel_rfl
@[simp] theorem Tryz.info237 : Tryz.prog.info? 237 = some Tryz.t237 := by kernel_rfl
@[simp] theorem Tryz.tsize237 : Tryz.t237.size = 1 := by kernel_rfl
@[simp] theorem Tryz.tbytes237 : Tryz.t237.bytes = 8 := by kernel_rfl
@[simp] theorem Tryz.builder237 : builderTy Tryz.prog 237 = false := by kernel_rfl
@[simp] theorem Tryz.azero237 : azero Tryz.prog 237 = some (.nilfunc) := by kernel_rfl
@[simp] theorem Tryz.asize238 : asize Tryz.prog 238 = some 1 := by kernel_rfl
@[simp] theorem Tryz.info238 : Tryz.prog.info? 238 = some Tryz.t238 := by kernel_rfl
@[simp] theorem Tryz.tsize238 : Tryz.t238.size = 1 := by kernel_rfl
@[simp] theorem Tryz.tbytes238 : Tryz.t238.bytes = 8 := by kernel_rfl
@[simp] theorem Tryz.builder238 : builderTy Tryz.prog 238 = false := by kernel_rfl
@[simp] theorem Tryz.azero238 : azero Tryz.prog 238 = some (.nilfunc) := by kernel_rfl
@[simp] theorem Tryz.asize239 : asize Tryz.prog 239 = some 1 := by kernel_rfl
@[simp] theorem Tryz.info239 : Tryz.prog.info? 239 = some Tryz.t239 := by kernel_rfl
@[simp] theorem Tryz.tsize239 : Tryz.t239.size = 1 := by kernel_rfl
@[simp] theorem Tryz.tbytes239 : Tryz.t239.bytes = 24 := by kernel_rfl
@[simp] theorem Tryz.builder239 : builderTy Tryz.prog 239 = false := by kernel_rfl
@[simp] theorem Tryz.azero239 : azero Tryz.prog 239 = some (.nilsl) := by kernel_rfl
@[simp] theorem Tryz.asize240 : asize Tryz.prog 240 = some 1 := by kernel_rfl
@[simp] theorem Tryz.info240 : Tryz.prog.info? 240 = some Tryz.t240 := by kernel_rfl
@[simp] theorem Tryz.tsize240 : Tryz.t240.size = 1 := by kernel_rfl
@[simp] theorem Tryz.tbytes240 : Tryz.t240.bytes = 8 := by kernel_rfl
@[simp] theorem Tryz.builder240 : builderTy Tryz.prog 240 = false := by kernel_rfl
@[simp] theorem Tryz.azero240 : azero Tryz.prog 240 = some (.nilfunc) := by kernel_rfl
@[simp] theorem Tryz.asize241 : asize Tryz.prog 241 = some 1 := by kernel_rfl
@[simp] theorem Tryz.info241 : Tryz.prog.info? 241 = some Tryz.t241 := by kernel_rfl
@[simp] theorem Tryz.tsize241 : Tryz.t241.size = 1 := by kernel_rfl
@[simp] theorem Tryz.tbytes241 : Tryz.t241.bytes = 8 := by kernel_rfl
@[simp] theorem Tryz.builder241 : builderTy Tryz.prog 241 = false := by kernel_rfl
@[simp] theorem Tryz.azero241 : azero Tryz.prog 241 = some (.nilfunc) := by kernel_rfl
@[simp] theorem Tryz.asize242 : asize Tryz.prog 242 = some 1 := by kernel_rfl
@[simp] theorem Tryz.info242 : Tryz.prog.info? 242 = some Tryz.t242 := by kernel_rfl
@[simp] theorem Tryz.tsize242 : Tryz.t242.size = 1 := by kernel_rfl
@[simp] theorem Tryz.tbytes242 : Tryz.t242.bytes = 8 := by kernel_rfl
@[simp] theorem Tryz.builder242 : builderTy Tryz.prog 242 = false := by kernel_rfl
@[simp] theorem Tryz.azero242 : azero Tryz.prog 242 = some (.nilfunc) := by kernel_rfl
@[simp] theorem Tryz.asize243 : asize Tryz.prog 243 = some 1 := by kernel_rfl
@[simp] theorem Tryz.info243 : Tryz.prog.info? 243 = some Tryz.t243 := by kernel_rfl
@[simp] theorem Tryz.tsize243 : Tryz.t243.size = 1 := by kernel_rfl
@[simp] theorem Tryz.tbytes243 : Tryz.t243.bytes = 8 := by kernel_rfl
@[simp] theorem Tryz.builder243 : builderTy Tryz.prog 243 = false := by kernel_rfl
@[simp] theorem Tryz.azero243 : azero Tryz.prog 243 = some (.nilfunc) := by kernel_rfl
@[simp] theorem Tryz.asize244 : asize Tryz.prog 244 = some 1 := by kernel_rfl
@[simp] theorem Tryz.info244 : Tryz.prog.info? 244 = some Tryz.t244 := by kernel_rfl
@[simp] theorem Tryz.tsize244 : Tryz.t244.size = 1 := by kernel_rfl
@[simp] theorem Tryz.tbytes244 : Tryz.t244.bytes = 8 := by kernel_rfl
@[simp] theorem Tryz.builder244 : builderTy Tryz.prog 244 = false := by kernel_rfl
@[simp] theorem Tryz.azero244 : azero Tryz.prog 244 = some (.nilfunc) := by kernel_rfl
@[simp] theorem Tryz.asize245 : asize Tryz.prog 245 = some 1 := by kernel_rfl
@[simp] theorem Tryz.info245 : Tryz.prog.info? 245 = some Tryz.t245 := by kernel_rfl
@[simp] theorem Tryz.tsize245 : Tryz.t245.size = 1 := by kernel_rfl
@[simp] theorem Tryz.tbytes245 : Tryz.t245.bytes = 0 := by kernel_rfl
@[simp] theorem Tryz.builder245 : builderTy Tryz.prog 245 = false := by kernel_rfl
@[simp] theorem Tryz.azero245 : azero Tryz.prog 245 = some (.tuple [.int .i64 (0), .bool false, .bool false]) := by kernel_rfl
@[simp] theorem Tryz.asize246 : asize Tryz.prog 246 = some 1 := by kernel_rfl
@[simp] theorem Tryz.info246 : Tryz.prog.info? 246 = some Tryz.t246 := by kernel_rfl
@[simp] theorem Tryz.tsize246 : Tryz.t246.size = 1 := by kernel_rfl
@[simp] theorem Tryz.tbytes246 : Tryz.t246.bytes = 8 := by kernel_rfl
@[simp] theorem Tryz.builder246 : builderTy Tryz.prog 246 = false := by kernel_rfl
@[simp] theorem Tryz.azero246 : azero Tryz.prog 246 = some (.nilfunc) := by kernel_rfl
@[simp] theorem Tryz.asize247 : asize Tryz.prog 247 = some 1 := by kernel_rfl
@[simp] theorem Tryz.info247 : Tryz.prog.info? 247 = some Tryz.t247 := by kernel_rfl
@[simp] theorem Tryz.tsize247 : Tryz.t247.size = 1 := by kernel_rfl
@[simp] theorem Tryz.tbytes247 : Tryz.t247.bytes = 8 := by kernel_rfl
@[simp] theorem Tryz.builder247 : builderTy Tryz.prog 247 = false := by kernel_rfl
@[simp] theorem Tryz.azero247 : azero Tryz.prog 247 = some (.nilfunc) := by kernel_rfl
@[simp] theorem Tryz.asize248 : asize Tryz.prog 248 = some 1 := by kernel_rfl
@[simp] theorem Tryz.info248 : Tryz.prog.info? 248 = some Tryz.t248 := by kernel_rfl
@[simp] theorem Tryz.tsize248 : Tryz.t248.size = 1 := by kernel_rfl
@[simp] theorem Tryz.tbytes248 : Tryz.t248.bytes = 8 := by kernel_rfl
@[simp] theorem Tryz.builder248 : builderTy Tryz.prog 248 = false := by kernel_rfl
@[simp] theorem Tryz.azero248 : azero Tryz.prog 248 = some (.nilfunc) := by kernel_rfl
@[simp] theorem Tryz.asize249 : asize Tryz.prog 249 = some 1 := by kernel_rfl
@[simp] theorem Tryz.info249 : Tryz.prog.info? 249 = some Tryz.t249 := by kernel_rfl
@[simp] theorem Tryz.tsize249 : Tryz.t249.size = 1 := by kernel_rfl
@[simp] theorem Tryz.tbytes249 : Tryz.t249.bytes = 16 := by kernel_rfl
@[simp] theorem Tryz.builder249 : builderTy Tryz.prog 249 = false := by kernel_rfl
@[simp] theorem Tryz.azero249 : azero Tryz.prog 249 = some (.niliface) := by kernel_rfl
@[simp] theorem Tryz.asize250 : asize Tryz.prog 250 = some 1 := by kernel_rfl
@[simp] theorem Tryz.info250 : Tryz.prog.info? 250 = some Tryz.t250 := by kernel_rfl
@[simp] theorem Tryz.tsize250 : Tryz.t250.size = 1 := by kernel_rfl
@[simp] theorem Tryz.tbytes250 : Tryz.t250.bytes = 16 := by kernel_rfl
@[simp] theorem Tryz.builder250 : builderTy Tryz.prog 250 = false := by kernel_rfl
@[simp] theorem Tryz.azero250 : azero Tryz.prog 250 = some (.niliface) := by kernel_rfl
@[simp] theorem Tryz.asize251 : asize Tryz.prog 251 = some 1 := by kernel_rfl
@[simp] theorem Tryz.info251 : Tryz.prog.info? 251 = some Tryz.t251 := by kernel_rfl
@[simp] theorem Tryz.tsize251 : Tryz.t251.size = 1 := by kernel_rfl
@[simp] theorem Tryz.tbytes251 : Tryz.t251.bytes = 0 := by kernel_rfl
@[simp] theorem Tryz.builder251 : builderTy Tryz.prog 251 = false := by kernel_rfl
@[simp] theorem Tryz.azero251 : azero Tryz.prog 251 = some (.tuple [.int .i64 (0), .niliface]) := by kernel_rfl
@[simp] theorem Tryz.asize252 : asize Tryz.prog 252 = some 1 := by kernel_rfl
@[simp] theorem Tryz.info252 : Tryz.prog.info? 252 = some Tryz.t252 := by kernel_rfl
@[simp] theorem Tryz.tsize252 : Tryz.t252.size = 1 := by kernel_rfl
@[simp] theorem Tryz.tbytes252 : Tryz.t252.bytes = 8 := by kernel_rfl
@[simp] theorem Tryz.builder252 : builderTy Tryz.prog 252 = false := by kernel_rfl
@[simp] theorem Tryz.azero252 : azero Tryz.prog 252 = some (.nilfunc) := by kernel_rfl
@[simp] theorem Tryz.asize253 : asize Tryz.prog 253 = some 1 := by kernel_rfl
@[simp] theorem Tryz.info253 : Tryz.prog.info? 253 = some Tryz.t253 := by kernel_rfl
@[simp] theorem Tryz.tsize253 : Tryz.t253.size = 1 := by kernel_rfl
@[simp] theorem Tryz.tbytes253 : Tryz.t253.bytes = 8 := by kernel_rfl
@[simp] theorem Tryz.builder253 : builderTy Tryz.prog 253 = false := by kernel_rfl
@[simp] theorem Tryz.azero253 : azero Tryz.prog 253 = some (.nilfunc) := by kernel_rfl
@[simp] theorem Tryz.asize254 : asize Tryz.prog 254 = some 1 := by kernel_rfl
@[simp] theorem Tryz.info254 : Tryz.prog.info? 254 = some Tryz.t254 := by kernel_rfl
@[simp] theorem Tryz.tsize254 : Tryz.t254.size = 1 := by kernel_rfl
@[simp] theorem Tryz.tbytes254 : Tryz.t254.bytes = 8 := by kernel_rfl
@[simp] theorem Tryz.builder254 : builderTy Tryz.prog 254 = false := by kernel_rfl
@[simp] theorem Tryz.azero254 : azero Tryz.prog 254 = some (.nilfunc) := by kernel_rfl
@[simp] theorem Tryz.asize255 : asize Tryz.prog 255 = some 1 := by kernel_rfl
@[simp] theorem Tryz.info255 : Tryz.prog.info? 255 = some Tryz.t255 := by kernel_rfl
@[simp] theorem Tryz.tsize255 : Tryz.t255.size = 1 := by kernel_rfl
@[simp] theorem Tryz.tbytes255 : Tryz.t255.bytes = 8 := by kernel_rfl
@[simp] theorem Tryz.builder255 : builderTy Tryz.prog 255 = false := by kernel_rfl
@[simp] theorem Tryz.azero255 : azero Tryz.prog 255 = some (.nilfunc) := by kernel_rfl
@[simp] theorem Tryz.asize256 : asize Tryz.prog 256 = some 1 := by kernel_rfl
@[simp] theorem Tryz.info256 : Tryz.prog.info? 256 = some Tryz.t256 := by kernel_rfl
@[simp] theorem Tryz.tsize256 : Tryz.t256.size = 1 := by kernel_rfl
@[simp] theorem Tryz.tbytes256 : Tryz.t256.bytes = 8 := by kernel_rfl
@[simp] theorem Tryz.builder256 : builderTy Tryz.prog 256 = false := by kernel_rfl
@[simp] theorem Tryz.azero256 : azero Tryz.prog 256 = some (.nilfunc) := by kernel_rfl
@[simp] theorem Tryz.asize257 : asize Tryz.prog 257 = some 1 := by kernel_rfl
@[simp] theorem Tryz.info257 : Tryz.prog.info? 257 = some Tryz.t257 := by kernel_rfl
@[simp] theorem Tryz.tsize257 : Tryz.t257.size = 1 := by kernel_rfl
@[simp] theorem Tryz.tbytes257 : Tryz.t257.bytes = 8 := by kernel_rfl
@[simp] theorem Tryz.builder257 : builderTy Tryz.prog 257 = false := by kernel_rfl
@[simp] theorem Tryz.azero257 : azero Tryz.prog 257 = some (.nilfunc) := by kernel_rfl
@[simp] theorem Tryz.asize258 : asize Tryz.prog 258 = some 1 := by kernel_rfl
@[simp] theorem Tryz.info258 : Tryz.prog.info? 258 = some Tryz.t258 := by kernel_rfl
@[simp] theorem Tryz.tsize258 : Tryz.t258.size = 1 := by kernel_rfl
@[simp] theorem Tryz.tbytes258 : Tryz.t258.bytes = 8 := by kernel_rfl
@[simp] theorem Tryz.builder258 : builderTy Tryz.prog 258 = false := by kernel_rfl
@[simp] theorem Tryz.azero258 : azero Tryz.prog 258 = some (.nilfunc) := by kernel_rfl
@[simp] theorem Tryz.asize259 : asize Tryz.prog 259 = some 1 := by kernel_rfl
@[simp] theorem Tryz.info259 : Tryz.prog.info? 259 = some Tryz.t259 := by kernel_rfl
@[simp] theorem Tryz.tsize259 : Tryz.t259.size = 1 := by kernel_rfl
@[simp] theorem Tryz.tbytes259 : Tryz.t259.bytes = 8 := by kernel_rfl
@[simp] theorem Tryz.builder259 : builderTy Tryz.prog 259 = false := by kernel_rfl
@[simp] theorem Tryz.azero259 : azero Tryz.prog 259 = some (.nilfunc) := by kernel_rfl
@[simp] theorem Tryz.asize260 : asize Tryz.prog 260 = some 1 := by kernel_rfl
@[simp] theorem Tryz.info260 : Tryz.prog.info? 260 = some Tryz.t260 := by kernel_rfl
@[simp] theorem Tryz.tsize260 : Tryz.t260.size = 1 := by kernel_rfl
@[simp] theorem Tryz.tbytes260 : Tryz.t260.bytes = 8 := by kernel_rfl
@[simp] theorem Tryz.builder260 : builderTy Tryz.prog 260 = false := by kernel_rfl
@[simp] theorem Tryz.azero260 : azero Tryz.prog 260 = some (.nilfunc) := by kernel_rfl
@[simp] theorem Tryz.asize261 : asize Tryz.prog 261 = some 1 := by kernel_rfl
@[simp] theorem Tryz.info261 : Tryz.prog.info? 261 = some Tryz.t261 := by kernel_rfl
@[simp] theorem Tryz.tsize261 : Tryz.t261.size = 1 := by kernel_rfl
@[simp] theorem Tryz.tbytes261 : Tryz.t261.bytes = 8 := by kernel_rfl
@[simp] theorem Tryz.builder261 : builderTy Tryz.prog 261 = false := by kernel_rfl
@[simp] theorem Tryz.azero261 : azero Tryz.prog 261 = some (.nilfunc) := by kernel_rfl
@[simp] theorem Tryz.asize262 : asize Tryz.prog 262 = some 1 := by kernel_rfl
@[simp] theorem Tryz.info262 : Tryz.prog.info? 262 = some Tryz.t262 := by kernel_rfl
@[simp] theorem Tryz.tsize262 : Tryz.t262.size = 1 := by kernel_rfl
@[simp] theorem Tryz.tbytes262 : Tryz.t262.bytes = 8 := by kernel_rfl
@[simp] theorem Tryz.builder262 : builderTy Tryz.prog 262 = false := by kernel_rfl
@[simp] theorem Tryz.azero262 : azero Tryz.prog 262 = some (.nilfunc) := by kernel_rfl
@[simp] theorem Tryz.asize263 : asize Tryz.prog 263 = some 1 := by kernel_rfl
@[simp] theorem Tryz.info263 : Tryz.prog.info? 263 = some Tryz.t263 := by kernel_rfl
@[simp] theorem Tryz.tsize263 : Tryz.t263.size = 1 := by kernel_rfl
@[simp] theorem Tryz.tbytes263 : Tryz.t263.bytes = 8 := by kernel_rfl
@[simp] theorem Tryz.builder263 : builderTy Tryz.prog 263 = false := by kernel_rfl
@[simp] theorem Tryz.azero263 : azero Tryz.prog 263 = some (.nilptr) := by kernel_rfl
@[simp] theorem Tryz.asize264 : asize Tryz.prog 264 = some 1 := by kernel_rfl
@[simp] theorem Tryz.info264 : Tryz.prog.info? 264 = some Tryz.t264 := by kernel_rfl
@[simp] theorem Tryz.tsize264 : Tryz.t264.size = 1 := by kernel_rfl
@[simp] theorem Tryz.tbytes264 : Tryz.t264.bytes = 8 := by kernel_rfl
@[simp] theorem Tryz.builder264 : builderTy Tryz.prog 264 = false := by kernel_rfl
@[simp] theorem Tryz.azero264 : azero Tryz.prog 264 = some (.agg [.nilmap]) := by kernel_rfl
@[simp] theorem Tryz.asize265 : asize Tryz.prog 265 = some 1 := by kernel_rfl
@[simp] theorem Tryz.info265 : Tryz.prog.info? 265 = some Tryz.t265 := by kernel_rfl
@[simp] theorem Tryz.tsize265 : Tryz.t265.size = 1 := by kernel_rfl
@[simp] theorem Tryz.tbytes265 : Tryz.t265.bytes = 8 := by kernel_rfl
@[simp] theorem Tryz.builder265 : builderTy Tryz.prog 265 = false := by kernel_rfl
@[simp] theorem Tryz.azero265 : azero Tryz.prog 265 = some (.agg [.nilmap]) := by kernel_rfl
@[simp] theorem Tryz.asize266 : asize Tryz.prog 266 = some 1 := by kernel_rfl
@[simp] theorem Tryz.info266 : Tryz.prog.info? 266 = some Tryz.t266 := by kernel_rfl
@[simp] theorem Tryz.tsize266 : Tryz.t266.size = 1 := by kernel_rfl
@[simp] theorem Tryz.tbytes266 : Tryz.t266.bytes = 0 := by kernel_rfl
@[simp] theorem Tryz.builder266 : builderTy Tryz.prog 266 = false := by kernel_rfl
@[simp] theorem Tryz.asize267 : asize Tryz.prog 267 = some 1 := by kernel_rfl
@[simp] theorem Tryz.info267 : Tryz.prog.info? 267 = some Tryz.t267 := by kernel_rfl
@[simp] theorem Tryz.tsize267 : Tryz.t267.size = 1 := by kernel_rfl
@[simp] theorem Tryz.tbytes267 : Tryz.t267.bytes = 8 := by kernel_rfl
@[simp] theorem Tryz.builder267 : builderTy Tryz.prog 267 = false := by kernel_rfl
@[simp] theorem Tryz.azero267 : azero Tryz.prog 267 = some (.nilfunc) := by kernel_rfl
@[simp] theorem Tryz.asize268 : asize Tryz.prog 268 = some 1 := by kernel_rfl
@[simp] theorem Tryz.info268 : Tryz.prog.info? 268 = some Tryz.t268 := by kernel_rfl
@[simp] theorem Tryz.tsize268 : Tryz.t268.size = 1 := by kernel_rfl
@[simp] theorem Tryz.tbytes268 : Tryz.t268.bytes = 8 := by kernel_rfl
@[simp] theorem Tryz.builder268 : builderTy Tryz.prog 268 = false := by kernel_rfl
@[simp] theorem Tryz.azero268 : azero Tryz.prog 268 = some (.nilfunc) := by kernel_rfl
@[simp] theorem Tryz.asize269 : asize Tryz.prog 269 = some 1 := by kernel_rfl
@[simp] theorem Tryz.info269 : Tryz.prog.info? 269 = some Tryz.t269 := by kernel_rfl
@[simp] theorem Tryz.tsize269 : Tryz.t269.size = 1 := by kernel_rfl
@[simp] theorem Tryz.tbytes269 : Tryz.t269.bytes = 8 := by kernel_rfl
@[simp] theorem Tryz.builder269 : builderTy Tryz.prog 269 = false := by kernel_rfl
@[simp] theorem Tryz.azero269 : azero Tryz.prog 269 = some (.nilfunc) := by kernel_rfl
@[simp] theorem Tryz.asize270 : asize Tryz.prog 270 = some 1 := by kernel_rfl
@[simp] theorem Tryz.info270 : Tryz.prog.info? 270 = some Tryz.t270 := by kernel_rfl
@[simp] theorem Tryz.tsize270 : Tryz.t270.size = 1 := by kernel_rfl
@[simp] theorem Tryz.tbytes270 : Tryz.t270.bytes = 8 := by kernel_rfl
@[simp] theorem Tryz.builder270 : builderTy Tryz.prog 270 = false := by kernel_rfl
@[simp] theorem Tryz.azero270 : azero Tryz.prog 270 = some (.nilfunc) := by kernel_rfl
@[simp] theorem Tryz.asize271 : asize Tryz.prog 271 = some 1 := by kernel_rfl
@[simp] theorem Tryz.info271 : Tryz.prog.info? 271 = some Tryz.t271 := by kernel_rfl
@[simp] theorem Tryz.tsize271 : Tryz.t271.size = 1 := by kernel_rfl
@[simp] theorem Tryz.tbytes271 : Tryz.t271.bytes = 8 := by kernel_rfl
@[simp] theorem Tryz.builder271 : builderTy Tryz.prog 271 = false := by kernel_rfl
@[simp] theorem Tryz.azero271 : azero Tryz.prog 271 = some (.nilfunc) := by kernel_rfl
@[simp] theorem Tryz.asize272 : asize Tryz.prog 272 = some 1 := by kernel_rfl
@[simp] theorem Tryz.info272 : Tryz.prog.info? 272 = some Tryz.t272 := by kernel_rfl
@[simp] theorem Tryz.tsize272 : Tryz.t272.size = 1 := by kernel_rfl
@[simp] theorem Tryz.tbytes272 : Tryz.t272.bytes = 8 := by kernel_rfl
@[simp] theorem Tryz.builder272 : builderTy Tryz.prog 272 = false := by kernel_rfl
@[simp] theorem Tryz.azero272 : azero Tryz.prog 272 = some (.nilfunc) := by kernel_rfl
@[simp] theorem Tryz.asize273 : asize Tryz.prog 273 = some 1 := by kernel_rfl
@[simp] theorem Tryz.info273 : Tryz.prog.info? 273 = some Tryz.t273 := by kernel_rfl
@[simp] theorem Tryz.tsize273 : Tryz.t273.size = 1 := by kernel_rfl
@[simp] theorem Tryz.tbytes273 : Tryz.t273.bytes = 8 := by kernel_rfl
@[simp] theorem Tryz.builder273 : builderTy Tryz.prog 273 = false := by kernel_rfl
@[simp] theorem Tryz.azero273 : azero Tryz.prog 273 = some (.nilptr) := by kernel_rfl
@[simp] theorem Tryz.asize274 : asize Tryz.prog 274 = some 1 := by kernel_rfl
@[simp] theorem Tryz.info274 : Tryz.prog.info? 274 = some Tryz.t274 := by kernel_rfl
@[simp] theorem Tryz.tsize274 : Tryz.t274.size = 1 := by kernel_rfl
@[simp] theorem Tryz.tbytes274 : Tryz.t274.bytes = 8 := by kernel_rfl
@[simp] theorem Tryz.builder274 : builderTy Tryz.prog 274 = false := by kernel_rfl
@[simp] theorem Tryz.azero274 : azero Tryz.prog 274 = some (.nilfunc) := by kernel_rfl
@[simp] theorem Tryz.asize275 : asize Tryz.prog 275 = some 1 := by kernel_rfl
@[simp] theorem Tryz.info275 : Tryz.prog.info? 275 = some Tryz.t275 := by kernel_rfl
@[simp] theorem Tryz.tsize275 : Tryz.t275.size = 1 := by kernel_rfl
@[simp] theorem Tryz.tbytes275 : Tryz.t275.bytes = 8 := by kernel_rfl
@[simp] theorem Tryz.builder275 : builderTy Tryz.prog 275 = false := by kernel_rfl
@[simp] theorem Tryz.azero275 : azero Tryz.prog 275 = some (.nilfunc) := by kernel_rfl
@[simp] theorem Tryz.asize276 : asize Tryz.prog 276 = some 1 := by kernel_rfl
@[simp] theorem Tryz.info276 : Tryz.prog.info? 276 = some Tryz.t276 := by kernel_rfl
@[simp] theorem Tryz.tsize276 : Tryz.t276.size = 1 := by kernel_rfl
@[simp] theorem Tryz.tbytes276 : Tryz.t276.bytes = 8 := by kernel_rfl
@[simp] theorem Tryz.builder276 : builderTy Tryz.prog 276 = false := by kernel_rfl
@[simp] theorem Tryz.azero276 : azero Tryz.prog 276 = some (.nilfunc) := by kernel_rfl
@[simp] theorem Tryz.asize277 : asize Tryz.prog 277 = some 1 := by kernel_rfl
@[simp] theorem Tryz.info277 : Tryz.prog.info? 277 = some Tryz.t277 := by kernel_rfl
@[simp] theorem Tryz.tsize277 : Tryz.t277.size = 1 := by kernel_rfl
@[simp] theorem Tryz.tbytes277 : Tryz.t277.bytes = 8 := by kernel_rfl
@[simp] theorem Tryz.builder277 : builderTy Tryz.prog 277 = false := by kernel_rfl
@[simp] theorem Tryz.azero277 : azero Tryz.prog 277 = some (.nilfunc) := by kernel_rfl
@[simp] theorem Tryz.asize278 : asize Tryz.prog 278 = some 1 := by kernel_rfl
@[simp] theorem Tryz.info278 : Tryz.prog.info? 278 = some Tryz.t278 := by kernel_rfl
@[simp] theorem Tryz.tsize278 : Tryz.t278.size = 1 := by kernel_rfl
@[simp] theorem Tryz.tbytes278 : Tryz.t278.bytes = 8 := by kernel_rfl
@[simp] theorem Tryz.builder278 : builderTy Tryz.prog 278 = false := by kernel_rfl
@[simp] theorem Tryz.azero278 : azero Tryz.prog 278 = some (.nilfunc) := by kernel_rfl
@[simp] theorem Tryz.asize279 : asize Tryz.prog 279 = some 1 := by kernel_rfl
@[simp] theorem Tryz.info279 : Tryz.prog.info? 279 = some Tryz.t279 := by kernel_rfl
@[simp] theorem Tryz.tsize279 : Tryz.t279.size = 1 := by kernel_rfl
@[simp] theorem Tryz.tbytes279 : Tryz.t279.bytes = 8 := by kernel_rfl
@[simp] theorem Tryz.builder279 : builderTy Tryz.prog 279 = false := by kernel_rfl
@[simp] theorem Tryz.azero279 : azero Tryz.prog 279 = some (.nilfunc) := by kernel_rfl
@[simp] theorem Tryz.asize280 : asize Tryz.prog 280 = some 1 := by kernel_rfl
@[simp] theorem Tryz.info280 : Tryz.prog.info? 280 = some Tryz.t280 := by kernel_rfl
@[simp] theorem Tryz.tsize280 : Tryz.t280.size = 1 := by kernel_rfl
@[simp] theorem Tryz.tbytes280 : Tryz.t280.bytes = 8 := by kernel_rfl
@[simp] theorem Tryz.builder280 : builderTy Tryz.prog 280 = false := by kernel_rfl
@[simp] theorem Tryz.azero280 : azero Tryz.prog 280 = some (.nilfunc) := by kernel_rfl
@[simp] theorem Tryz.asize281 : asize Tryz.prog 281 = some 256 := by kernel_rfl
@[simp] theorem Tryz.info281 : Tryz.prog.info? 281 = some Tryz.t281 := by kernel_rfl
@[simp] theorem Tryz.tsize281 : Tryz.t281.size = 256 := by kernel_rfl
@[simp] theorem Tryz.tbytes281 : Tryz.t281.bytes = 256 := by kernel_rfl
@[simp] theorem Tryz.builder281 : builderTy Tryz.prog 281 = false := by kernel_rfl
@[simp] theorem Tryz.asize282 : asize Tryz.prog 282 = some 256 := by kernel_rfl
@[simp] theorem Tryz.info282 : Tryz.prog.info? 282 = some Tryz.t282 := by kernel_rfl
@[simp] theorem Tryz.tsize282 : Tryz.t282.size = 256 := by kernel_rfl
@[simp] theorem Tryz.tbytes282 : Tryz.t282.bytes = 256 := by kernel_rfl
@[simp] theorem Tryz.builder282 : builderTy Tryz.prog 282 = false := by kernel_rfl
@[simp] theorem Tryz.asize283 : asize Tryz.prog 283 = some 1 := by kernel_rfl
@[simp] theorem Tryz.info283 : Tryz.prog.info? 283 = some Tryz.t283 := by kernel_rfl
@[simp] theorem Tryz.tsize283 : Tryz.t283.size = 1 := by kernel_rfl
@[simp] theorem Tryz.tbytes283 : Tryz.t283.bytes = 0 := by kernel_rfl
@[simp] theorem Tryz.builder283 : builderTy Tryz.prog 283 = false := by kernel_rfl
@[simp] theorem Tryz.asize284 : asize Tryz.prog 284 = some 1 := by kernel_rfl
@[simp] theorem Tryz.info284 : Tryz.prog.info? 284 = some Tryz.t284 := by kernel_rfl
@[simp] theorem Tryz.tsize284 : Tryz.t284.size = 1 := by kernel_rfl
@[simp] theorem Tryz.tbytes284 : Tryz.t284.bytes = 8 := by kernel_rfl
@[simp] theorem Tryz.builder284 : builderTy Tryz.prog 284 = false := by kernel_rfl
@[simp] theorem Tryz.azero284 : azero Tryz.prog 284 = some (.nilfunc) := by kernel_rfl
@[simp] theorem Tryz.asize285 : asize Tryz.prog 285 = some 1 := by kernel_rfl
@[simp] theorem Tryz.info285 : Tryz.prog.info? 285 = some Tryz.t285 := by kernel_rfl
@[simp] theorem Tryz.tsize285 : Tryz.t285.size = 1 := by kernel_rfl
@[simp] theorem Tryz.tbytes285 : Tryz.t285.bytes = 8 := by kernel_rfl
@[simp] theorem Tryz.builder285 : builderTy Tryz.prog 285 = false := by kernel_rfl
@[simp] theorem Tryz.azero285 : azero Tryz.prog 285 = some (.nilfunc) := by kernel_rfl
@[simp] theorem Tryz.asize286 : asize Tryz.prog 286 = some 1 := by kernel_rfl
@[simp] theorem Tryz.info286 : Tryz.prog.info? 286 = some Tryz.t286 := by kernel_rfl
@[simp] theorem Tryz.tsize286 : Tryz.t286.size = 1 := by kernel_rfl
@[simp] theorem Tryz.tbytes286 : Tryz.t286.bytes = 8 := by kernel_rfl
@[simp] theorem Tryz.builder286 : builderTy Tryz.prog 286 = false := by kernel_rfl
@[simp] theorem Tryz.azero286 : azero Tryz.prog 286 = some (.nilptr) := by kernel_rfl
@[simp] theorem Tryz.asize287 : asize Tryz.prog 287 = some 1 := by kernel_rfl
@[simp] theorem Tryz.info287 : Tryz.prog.info? 287 = some Tryz.t287 := by kernel_rfl
@[simp] theorem Tryz.tsize287 : Tryz.t287.size = 1 := by kernel_rfl
@[simp] theorem Tryz.tbytes287 : Tryz.t287.bytes = 8 := by kernel_rfl
@[simp] theorem Tryz.builder287 : builderTy Tryz.prog 287 = false := by kernel_rfl
@[simp] theorem Tryz.azero287 : azero Tryz.prog 287 = some (.nilfunc) := by kernel_rfl
@[simp] theorem Tryz.asize288 : asize Tryz.prog 288 = some 1 := by kernel_rfl
@[simp] theorem Tryz.info288 : Tryz.prog.info? 288 = some Tryz.t288 := by kernel_rfl
@[simp] theorem Tryz.tsize288 : Tryz.t288.size = 1 := by kernel_rfl
@[simp] theorem Tryz.tbytes288 : Tryz.t288.bytes = 8 := by kernel_rfl
@[simp] theorem Tryz.builder288 : builderTy Tryz.prog 288 = false := by kernel_rfl
@[simp] theorem Tryz.azero288 : azero Tryz.prog 288 = some (.nilfunc) := by kernel_rfl
@[simp] theorem Tryz.asize289 : asize Tryz.prog 289 = some 1 := by kernel_rfl
@[simp] theorem Tryz.info289 : Tryz.prog.info? 289 = some Tryz.t289 := by kernel_rfl
@[simp] theorem Tryz.tsize289 : Tryz.t289.size = 1 := by kernel_rfl
@[simp] theorem Tryz.tbytes289 : Tryz.t289.bytes = 8 := by kernel_rfl
@[simp] theorem Tryz.builder289 : builderTy Tryz.prog 289 = false := by kernel_rfl
@[simp] theorem Tryz.azero289 : azero Tryz.prog 289 = some (.nilfunc) := by kernel_rfl
@[simp] theorem Tryz.asize290 : asize Tryz.prog 290 = some 1 := by kernel_rfl
@[simp] theorem Tryz.info290 : Tryz.prog.info? 290 = some Tryz.t290 := by kernel_rfl
@[simp] theorem Tryz.tsize290 : Tryz.t290.size = 1 := by kernel_rfl
@[simp] theorem Tryz.tbytes290 : Tryz.t290.bytes = 8 := by kernel_rfl
@[simp] theorem Tryz.builder290 : builderTy Tryz.prog 290 = false := by kernel_rfl
@[simp] theorem Tryz.azero290 : azero Tryz.prog 290 = some (.nilfunc) := by kernel_rfl
@[simp] theorem Tryz.asize291 : asize Tryz.prog 291 = some 1 := by kernel_rfl
@[simp] theorem Tryz.info291 : Tryz.prog.info? 291 = some Tryz.t291 := by kernel_rfl
@[simp] theorem Tryz.tsize291 : Tryz.t291.size = 1 := by kernel_rfl
@[simp] theorem Tryz.tbytes291 : Tryz.t291.bytes = 8 := by kernel_rfl
@[simp] theorem Tryz.builder291 : builderTy Tryz.prog 291 = false := by kernel_rfl
@[simp] theorem Tryz.azero291 : azero Tryz.prog 291 = some (.nilfunc) := by kernel_rfl
@[simp] theorem Tryz.asize292 : asize Tryz.prog 292 = some 1 := by kernel_rfl
@[simp] theorem Tryz.info292 : Tryz.prog.info? 292 = some Tryz.t292 := by kernel_rfl
@[simp] theorem Tryz.tsize292 : Tryz.t292.size = 1 := by kernel_rfl
@[simp] theorem Tryz.tbytes292 : Tryz.t292.bytes = 8 := by kernel_rfl
@[simp] theorem Tryz.builder292 : builderTy Tryz.prog 292 = false := by kernel_rfl
@[simp] theorem Tryz.azero292 : azero Tryz.prog 292 = some (.nilfunc) := by kernel_rfl
@[simp] theorem Tryz.asize293 : asize Tryz.prog 293 = some 1 := by kernel_rfl
@[simp] theorem Tryz.info293 : Tryz.prog.info? 293 = some Tryz.t293 := by kernel_rfl
@[simp] theorem Tryz.tsize293 : Tryz.t293.size = 1 := by kernel_rfl
@[simp] theorem Tryz.tbytes293 : Tryz.t293.bytes = 8 := by kernel_rfl
@[simp] theorem Tryz.builder293 : builderTy Tryz.prog 293 = false := by kernel_rfl
@[simp] theorem Tryz.azero293 : azero Tryz.prog 293 = some (.nilfunc) := by kernel_rfl
@[simp] theorem Tryz.asize294 : asize Tryz.prog 294 = some 1 := by kernel_rfl
@[simp] theorem Tryz.info294 : Tryz.prog.info? 294 = some Tryz.t294 := by kernel_rfl
@[simp] theorem Tryz.tsize294 : Tryz.t294.size = 1 := by kernel_rfl
@[simp] theorem Tryz.tbytes294 : Tryz.t294.bytes = 8 := by kernel_rfl
@[simp] theorem Tryz.builder294 : builderTy Tryz.prog 294 = false := by kernel_rfl
@[simp] theorem Tryz.azero294 : azero Tryz.prog 294 = some (.nilfunc) := by kernel_rfl
@[simp] theorem Tryz.asize295 : asize Tryz.prog 295 = some 1 := by kernel_rfl
@[simp] theorem Tryz.info295 : Tryz.prog.info? 295 = some Tryz.t295 := by kernel_rfl
@[simp] theorem Tryz.tsize295 : Tryz.t295.size = 1 := by kernel_rfl
@[simp] theorem Tryz.tbytes295 : Tryz.t295.bytes = 8 := by kernel_rfl
@[simp] theorem Tryz.builder295 : builderTy Tryz.prog 295 = false := by kernel_rfl
@[simp] theorem Tryz.azero295 : azero Tryz.prog 295 = some (.nilfunc) := by kernel_rfl
@[simp] theorem Tryz.asize296 : asize Tryz.prog 296 = some 1 := by kernel_rfl
@[simp] theorem Tryz.info296 : Tryz.prog.info? 296 = some Tryz.t296 := by kernel_rfl
@[simp] theorem Tryz.tsize296 : Tryz.t296.size = 1 := by kernel_rfl
@[simp] theorem Tryz.tbytes296 : Tryz.t296.bytes = 8 := by kernel_rfl
@[simp] theorem Tryz.builder296 : builderTy Tryz.prog 296 = false := by kernel_rfl
@[simp] theorem Tryz.azero296 : azero Tryz.prog 296 = some (.nilfunc) := by kernel_rfl
@[simp] theorem Tryz.asize297 : asize Tryz.prog 297 = some 1 := by kernel_rfl
@[simp] theorem Tryz.info297 : Tryz.prog.info? 297 = some Tryz.t297 := by kernel_rfl
@[simp] theorem Tryz.tsize297 : Tryz.t297.size = 1 := by kernel_rfl
@[simp] theorem Tryz.tbytes297 : Tryz.t297.bytes = 8 := by kernel_rfl
@[simp] theorem Tryz.builder297 : builderTy Tryz.prog 297 = false := by kernel_rfl
@[simp] theorem Tryz.azero297 : azero Tryz.prog 297 = some (.nilfunc) := by kernel_rfl
@[simp] theorem Tryz.asize298 : asize Tryz.prog 298 = some 1 := by kernel_rfl
@[simp] theorem Tryz.info298 : Tryz.prog.info? 298 = some Tryz.t298 := by kernel_rfl
@[simp] theorem Tryz.tsize298 : Tryz.t298.size = 1 := by kernel_rfl
@[simp] theorem Tryz.tbytes298 : Tryz.t298.bytes = 8 := by kernel_rfl
@[simp] theorem Tryz.builder298 : builderTy Tryz.prog 298 = false := by kernel_rfl
@[simp] theorem Tryz.azero298 : azero Tryz.prog 298 = some (.nilfunc) := by kernel_rfl
@[simp] theorem Tryz.asize299 : asize Tryz.prog 299 = some 1 := by kernel_rfl
@[simp] theorem Tryz.info299 : Tryz.prog.info? 299 = some Tryz.t299 := by kernel_rfl
@[simp] theorem Tryz.tsize299 : Tryz.t299.size = 1 := by kernel_rfl
@[simp] theorem Tryz.tbytes299 : Tryz.t299.bytes = 0 := by kernel_rfl
@[simp] theorem Tryz.builder299 : builderTy Tryz.prog 299 = false := by kernel_rfl
@[simp] theorem Tryz.azero299 : azero Tryz.prog 299 = some (.tuple [.int .i32 (0), .int .i64 (0)]) := by kernel_rfl
@[simp] theorem Tryz.asize300 : asize Tryz.prog 300 = some 1 := by kernel_rfl
@[simp] theorem Tryz.info300 : Tryz.prog.info? 300 = some Tryz.t300 := by kernel_rfl
@[simp] theorem Tryz.tsize300 : Tryz.t300.size = 1 := by kernel_rfl
@[simp] theorem Tryz.tbytes300 : Tryz.t300.bytes = 8 := by kernel_rfl
@[simp] theorem Tryz.builder300 : builderTy Tryz.prog 300 = false := by kernel_rfl
@[simp] theorem Tryz.azero300 : azero Tryz.prog 300 = some (.nilfunc) := by kernel_rfl
@[simp] theorem Tryz.asize301 : asize Tryz.prog 301 = some 1 := by kernel_rfl
@[simp] theorem Tryz.info301 : Tryz.prog.info? 301 = some Tryz.t301 := by kernel_rfl
@[simp] theorem Tryz.tsize301 : Tryz.t301.size = 1 := by kernel_rfl
@[simp] theorem Tryz.tbytes301 : Tryz.t301.bytes = 8 := by kernel_rfl
@[simp] theorem Tryz.builder301 : builderTy Tryz.prog 301 = false := by kernel_rfl
@[simp] theorem Tryz.azero301 : azero Tryz.prog 301 = some (.nilfunc) := by kernel_rfl
@[simp] theorem Tryz.asize302 : asize Tryz.prog 302 = some 1 := by kernel_rfl
@[simp] theorem Tryz.info302 : Tryz.prog.info? 302 = some Tryz.t302 := by kernel_rfl
@[simp] theorem Tryz.tsize302 : Tryz.t302.size = 1 := by kernel_rfl
@[simp] theorem Tryz.tbytes302 : Tryz.t302.bytes = 8 := by kernel_rfl
@[simp] theorem Tryz.builder302 : builderTy Tryz.prog 302 = false := by kernel_rfl
@[simp] theorem Tryz.azero302 : azero Tryz.prog 302 = some (.int .i64 (0)) := by kernel_rfl
@[simp] theorem Tryz.asize303 : asize Tryz.prog 303 = some 1 := by kernel_rfl
@[simp] theorem Tryz.info303 : Tryz.prog.info? 303 = some Tryz.t303 := by kernel_rfl
@[simp] theorem Tryz.tsize303 : Tryz.t303.size = 1 := by kernel_rfl
@[simp] theorem Tryz.tbytes303 : Tryz.t303.bytes = 0 := by kernel_rfl
@[simp] theorem Tryz.builder303 : builderTy Tryz.prog 303 = false := by kernel_rfl
@[simp] theorem Tryz.azero303 : azero Tryz.prog 303 = some (.tuple [.int .u64 (0), .niliface]) := by kernel_rfl
@[simp] theorem Tryz.asize304 : asize Tryz.prog 304 = some 1 := by kernel_rfl
@[simp] theorem Tryz.info304 : Tryz.prog.info? 304 = some Tryz.t304 := by kernel_rfl
@[simp] theorem Tryz.tsize304 : Tryz.t304.size = 1 := by kernel_rfl
@[simp] theorem Tryz.tbytes304 : Tryz.t304.bytes = 8 := by kernel_rfl
@[simp] theorem Tryz.builder304 : builderTy Tryz.prog 304 = false := by kernel_rfl
@[simp] theorem Tryz.azero304 : azero Tryz.prog 304 = some (.nilfunc) := by kernel_rfl
@[simp] theorem Tryz.asize305 : asize Tryz.prog 305 = some 1 := by kernel_rfl
@[simp] theorem Tryz.info305 : Tryz.prog.info? 305 = some Tryz.t305 := by kernel_rfl
@[simp] theorem Tryz.tsize305 : Tryz.t305.size = 1 := by kernel_rfl
@[simp] theorem Tryz.tbytes305 : Tryz.t305.bytes = 8 := by kernel_rfl
@[simp] theorem Tryz.builder305 : builderTy Tryz.prog 305 = false := by kernel_rfl
@[simp] theorem Tryz.azero305 : azero Tryz.prog 305 = some (.nilptr) := by kernel_rfl
@[simp] theorem Tryz.asize306 : asize Tryz.prog 306 = some 1 := by kernel_rfl
@[simp] theorem Tryz.info306 : Tryz.prog.info? 306 = some Tryz.t306 := by kernel_rfl
@[simp] theorem Tryz.tsize306 : Tryz.t306.size = 1 := by kernel_rfl
@[simp] theorem Tryz.tbytes306 : Tryz.t306.bytes = 8 := by kernel_rfl
@[simp] theorem Tryz.builder306 : builderTy Tryz.prog 306 = false := by kernel_rfl
@[simp] theorem Tryz.azero306 : azero Tryz.prog 306 = some (.nilfunc) := by kernel_rfl
@[simp] theorem Tryz.asize307 : asize Tryz.prog 307 = some 1 := by kernel_rfl
@[simp] theorem Tryz.info307 : Tryz.prog.info? 307 = some Tryz.t307 := by kernel_rfl
@[simp] theorem Tryz.tsize307 : Tryz.t307.size = 1 := by kernel_rfl
@[simp] theorem Tryz.tbytes307 : Tryz.t307.bytes = 8 := by kernel_rfl
@[simp] theorem Tryz.builder307 : builderTy Tryz.prog 307 = false := by kernel_rfl
@[simp] theorem Tryz.azero307 : azero Tryz.prog 307 = some (.nilfunc) := by kernel_rfl
@[simp] theorem Tryz.asize308 : asize Tryz.prog 308 = some 1 := by kernel_rfl
@[simp] theorem Tryz.info308 : Tryz.prog.info? 308 = some Tryz.t308 := by kernel_rfl
@[simp] theorem Tryz.tsize308 : Tryz.t308.size = 1 := by kernel_rfl
@[simp] theorem Tryz.tbytes308 : Tryz.t308.bytes = 8 := by kernel_rfl
@[simp] theorem Tryz.builder308 : builderTy Tryz.prog 308 = false := by kernel_rfl
@[simp] theorem Tryz.azero308 : azero Tryz.prog 308 = some (.nilfunc) := by kernel_rfl
@[simp] theorem Tryz.asize309 : asize Tryz.prog 309 = some 1 := by kernel_rfl
@[simp] theorem Tryz.info309 : Tryz.prog.info? 309 = some Tryz.t309 := by kernel_rfl
@[simp] theorem Tryz.tsize309 : Tryz.t309.size = 1 := by kernel_rfl
@[simp] theorem Tryz.tbytes309 : Tryz.t309.bytes = 8 := by kernel_rfl
@[simp] theorem Tryz.builder309 : builderTy Tryz.prog 309 = false := by kernel_rfl
@[simp] theorem Tryz.azero309 : azero Tryz.prog 309 = some (.nilfunc) := by kernel_rfl
@[simp] theorem Tryz.asize310 : asize Tryz.prog 310 = some 1 := by kernel_rfl
@[simp] theorem Tryz.info310 : Tryz.prog.info? 310 = some Tryz.t310 := by kernel_rfl
@[simp] theorem Tryz.tsize310 : Tryz.t310.size = 1 := by kernel_rfl
@[simp] theorem Tryz.tbytes310 : Tryz.t310.bytes = 8 := by kernel_rfl
@[simp] theorem Tryz.builder310 : builderTy Tryz.prog 310 = false := by kernel_rfl
@[simp] theorem Tryz.azero310 : azero Tryz.prog 310 = some (.nilfunc) := by kernel_rfl
@[simp] theorem Tryz.asize311 : asize Tryz.prog 311 = some 1 := by kernel_rfl
@[simp] theorem Tryz.info311 : Tryz.prog.info? 311 = some Tryz.t311 := by kernel_rfl
@[simp] theorem Tryz.tsize311 : Tryz.t311.size = 1 := by kernel_rfl
@[simp] theorem Tryz.tbytes311 : Tryz.t311.bytes = 0 := by kernel_rfl
@[simp] theorem Tryz.builder311 : builderTy Tryz.prog 311 = false := by kernel_rfl
@[simp] theorem Tryz.azero311 : azero Tryz.prog 311 = some (.tuple [.int .u32 (0), .int .u32 (0)]) := by kernel_rfl
@[simp] theorem Tryz.asize312 : asize Tryz.prog 312 = some 1 := by kernel_rfl
@[simp] theorem Tryz.info312 : Tryz.prog.info? 312 = some Tryz.t312 := by kernel_rfl
@[simp] theorem Tryz.tsize312 : Tryz.t312.size = 1 := by kernel_rfl
@[simp] theorem Tryz.tbytes312 : Tryz.t312.bytes = 8 := by kernel_rfl
@[simp] theorem Tryz.builder312 : builderTy Tryz.prog 312 = false := by kernel_rfl
@[simp] theorem Tryz.azero312 : azero Tryz.prog 312 = some (.nilfunc) := by kernel_rfl
@[simp] theorem Tryz.asize313 : asize Tryz.prog 313 = some 1 := by kernel_rfl
@[simp] theorem Tryz.info313 : Tryz.prog.info? 313 = some Tryz.t313 := by kernel_rfl
@[simp] theorem Tryz.tsize313 : Tryz.t313.size = 1 := by kernel_rfl
@[simp] theorem Tryz.tbytes313 : Tryz.t313.bytes = 8 := by kernel_rfl
@[simp] theorem Tryz.builder313 : builderTy Tryz.prog 313 = false := by kernel_rfl
@[simp] theorem Tryz.azero313 : azero Tryz.prog 313 = some (.nilfunc) := by kernel_rfl
@[simp] theorem Tryz.asize314 : asize Tryz.prog 314 = some 3 := by kernel_rfl
@[simp] theorem Tryz.info314 : Tryz.prog.info? 314 = some Tryz.t314 := by kernel_rfl
@[simp] theorem Tryz.tsize314 : Tryz.t314.size = 3 := by kernel_rfl
@[simp] theorem Tryz.tbytes314 : Tryz.t314.bytes = 48 := by kernel_rfl
@[simp] theorem Tryz.builder314 : builderTy Tryz.prog 314 = false := by kernel_rfl
@[simp] theorem Tryz.azero314 : azero Tryz.prog 314 = some (.agg [.str [], .str [], .niliface]) := by kernel_rfl
@[simp] theorem Tryz.asize315 : asize Tryz.prog 315 = some 3 := by kernel_rfl
@[simp] theorem Tryz.info315 : Tryz.prog.info? 315 = some Tryz.t315 := by kernel_rfl
@[simp] theorem Tryz.tsize315 : Tryz.t315.size = 3 := by kernel_rfl
@[simp] theorem Tryz.tbytes315 : Tryz.t315.bytes = 48 := by kernel_rfl
@[simp] theorem Tryz.builder315 : builderTy Tryz.prog 315 = false := by kernel_rfl
@[simp] theorem Tryz.azero315 : azero Tryz.prog 315 = some (.agg [.str [], .str [], .niliface]) := by kernel_rfl
@[simp] theorem Tryz.asize316 : asize Tryz.prog 316 = some 1 := by kernel_rfl
@[simp] theorem Tryz.info316 : Tryz.prog.info? 316 = some Tryz.t316 := by kernel_rfl
@[simp] theorem Tryz.tsize316 : Tryz.t316.size = 1 := by kernel_rfl
@[simp] theorem Tryz.tbytes316 : Tryz.t316.bytes = 8 := by kernel_rfl
@[simp] theorem Tryz.builder316 : builderTy Tryz.prog 316 = false := by kernel_rfl
@[simp] theorem Tryz.azero316 : azero Tryz.prog 316 = some (.nilfunc) := by kernel_rfl
@[simp] theorem Tryz.asize317 : asize Tryz.prog 317 = some 24 := by kernel_rfl
@[simp] theorem Tryz.info317 : Tryz.prog.info? 317 = some Tryz.t317 := by kernel_rfl
@[simp] theorem Tryz.tsize317 : Tryz.t317.size = 24 := by kernel_rfl
@[simp] theorem Tryz.tbytes317 : Tryz.t317.bytes = 24 := by kernel_rfl
@[simp] theorem Tryz.builder317 : builderTy Tryz.prog 317 = false := by kernel_rfl
@[simp] theorem Tryz.azero317 : azero Tryz.prog 317 = some (.agg [.int .u8 (0), .int .u8 (0), .int .u8 (0), .int .u8 (0), .int .u8 (0), .int .u8 (0), .int .u8 (0), .int .u8 (0), .int .u8 (0), .int .u8 (0), .int .u8 (0), .int .u8 (0), .int .u8 (0), .int .u8 (0), .int .u8 (0), .int .u8 (0), .int .u8 (0), .int .u8 (0), .int .u8 (0), .int .u8 (0), .int .u8 (0), .int .u8 (0), .int .u8 (0), .int .u8 (0)]) := by kernel_rfl
@[simp] theorem Tryz.asize318 : asize Tryz.prog 318 = some 1 := by kernel_rfl
@[simp] theorem Tryz.info318 : Tryz.prog.info? 318 = some Tryz.t318 := by kernel_rfl
@[simp] theorem Tryz.tsize318 : Tryz.t318.size = 1 := by kernel_rfl
@[simp] theorem Tryz.tbytes318 : Tryz.t318.bytes = 8 := by kernel_rfl
@[simp] theorem Tryz.builder318 : builderTy Tryz.prog 318 = false := by kernel_rfl
@[simp] theorem Tryz.azero318 : azero Tryz.prog 318 = some (.nilfunc) := by kernel_rfl
@[simp] theorem Tryz.asize319 : asize Tryz.prog 319 = some 1 := by kernel_rfl
@[simp] theorem Tryz.info319 : Tryz.prog.info? 319 = some Tryz.t319 := by kernel_rfl
@[simp] theorem Tryz.tsize319 : Tryz.t319.size = 1 := by kernel_rfl
@[simp] theorem Tryz.tbytes319 : Tryz.t319.bytes = 8 := by kernel_rfl
@[simp] theorem Tryz.builder319 : builderTy Tryz.prog 319 = false := by kernel_rfl
@[simp] theorem Tryz.azero319 : azero Tryz.prog 319 = some (.nilfunc) := by kernel_rfl
@[simp] theorem Tryz.asize320 : asize Tryz.prog 320 = some 1 := by kernel_rfl
@[simp] theorem Tryz.info320 : Tryz.prog.info? 320 = some Tryz.t320 := by kernel_rfl
@[simp] theorem Tryz.tsize320 : Tryz.t320.size = 1 := by kernel_rfl
@[simp] theorem Tryz.tbytes320 : Tryz.t320.bytes = 0 := by kernel_rfl
@[simp] theorem Tryz.builder320 : builderTy Tryz.prog 320 = false := by kernel_rfl
@[simp] theorem Tryz.azero320 : azero Tryz.prog 320 = some (.tuple [.nilsl, .str []]) := by kernel_rfl
@[simp] theorem Tryz.asize321 : asize Tryz.prog 321 = some 1 := by kernel_rfl
@[simp] theorem Tryz.info321 : Tryz.prog.info? 321 = some Tryz.t321 := by kernel_rfl
@[simp] theorem Tryz.tsize321 : Tryz.t321.size = 1 := by kernel_rfl
@[simp] theorem Tryz.tbytes321 : Tryz.t321.bytes = 8 := by kernel_rfl
@[simp] theorem Tryz.builder321 : builderTy Tryz.prog 321 = false := by kernel_rfl
@[simp] theorem Tryz.azero321 : azero Tryz.prog 321 = some (.nilfunc) := by kernel_rfl
@[simp] theorem Tryz.asize322 : asize Tryz.prog 322 = some 256 := by kernel_rfl
@[simp] theorem Tryz.info322 : Tryz.prog.info? 322 = some Tryz.t322 := by kernel_rfl
@[simp] theorem Tryz.tsize322 : Tryz.t322.size = 256 := by kernel_rfl
@[simp] theorem Tryz.tbytes322 : Tryz.t322.bytes = 256 := by kernel_rfl
@[simp] theorem Tryz.builder322 : builderTy Tryz.prog 322 = false := by kernel_rfl
@[simp] theorem Tryz.asize323 : asize Tryz.prog 323 = some 2 := by kernel_rfl
@[simp] theorem Tryz.info323 : Tryz.prog.info? 323 = some Tryz.t323 := by kernel_rfl
@[simp] theorem Tryz.tsize323 : Tryz.t323.size = 2 := by kernel_rfl
@[simp] theorem Tryz.tbytes323 : Tryz.t323.bytes = 2 := by kernel_rfl
@[simp] theorem Tryz.builder323 : builderTy Tryz.prog 323 = false := by kernel_rfl
@[simp] theorem Tryz.azero323 : azero Tryz.prog 323 = some (.agg [.int .u8 (0), .int .u8 (0)]) := by kernel_rfl
@[simp] theorem Tryz.asize324 : asize Tryz.prog 324 = some 2 := by kernel_rfl
@[simp] theorem Tryz.info324 : Tryz.prog.info? 324 = some Tryz.t324 := by kernel_rfl
@[simp] theorem Tryz.tsize324 : Tryz.t324.size = 2 := by kernel_rfl
@[simp] theorem Tryz.tbytes324 : Tryz.t324.bytes = 2 := by kernel_rfl
@[simp] theorem Tryz.builder324 : builderTy Tryz.prog 324 = false := by kernel_rfl
@[simp] theorem Tryz.azero324 : azero Tryz.prog 324 = some (.agg [.int .u8 (0), .int .u8 (0)]) := by kernel_rfl
@[simp] theorem Tryz.asize325 : asize Tryz.prog 325 = some 32 := by kernel_rfl
@[simp] theorem Tryz.info325 : Tryz.prog.info? 325 = some Tryz.t325 := by kernel_rfl
@[simp] theorem Tryz.tsize325 : Tryz.t325.size = 32 := by kernel_rfl
@[simp] theorem Tryz.tbytes325 : Tryz.t325.bytes = 32 := by kernel_rfl
@[simp] theorem Tryz.builder325 : builderTy Tryz.prog 325 = false := by kernel_rfl
@[simp] theorem Tryz.azero325 : azero Tryz.prog 325 = some (.agg [.int .u8 (0), .int .u8 (0), .int .u8 (0), .int .u8 (0), .int .u8 (0), .int .u8 (0), .int .u8 (0), .int .u8 (0), .int .u8 (0), .int .u8 (0), .int .u8 (0), .int .u8 (0), .int .u8 (0), .int .u8 (0), .int .u8 (0), .int .u8 (0), .int .u8 (0), .int .u8 (0), .int .u8 (0), .int .u8 (0), .int .u8 (0), .int .u8 (0), .int .u8 (0), .int .u8 (0), .int .u8 (0), .int .u8 (0), .int .u8 (0), .int .u8 (0), .int .u8 (0), .int .u8 (0), .int .u8 (0), .int .u8 (0)]) := by kernel_rfl
@[simp] theorem Tryz.asize326 : asize Tryz.prog 326 = some 1 := by kernel_rfl
@[simp] theorem Tryz.info326 : Tryz.prog.info? 326 = some Tryz.t326 := by kernel_rfl
@[simp] theorem Tryz.tsize326 : Tryz.t326.size = 1 := by kernel_rfl
@[simp] theorem Tryz.tbytes326 : Tryz.t326.bytes = 8 := by kernel_rfl
@[simp] theorem Tryz.builder326 : builderTy Tryz.prog 326 = false := by kernel_rfl
@[simp] theorem Tryz.azero326 : azero Tryz.prog 326 = some (.nilfunc) := by kernel_rfl
@[simp] theorem Tryz.asize327 : asize Tryz.prog 327 = some 1 := by kernel_rfl
@[simp] theorem Tryz.info327 : Tryz.prog.info? 327 = some Tryz.t327 := by kernel_rfl
@[simp] theorem Tryz.tsize327 : Tryz.t327.size = 1 := by kernel_rfl
@[simp] theorem Tryz.tbytes327 : Tryz.t327.bytes = 8 := by kernel_rfl
@[simp] theorem Tryz.builder327 : builderTy Tryz.prog 327 = false := by kernel_rfl
@[simp] theorem Tryz.azero327 : azero Tryz.prog 327 = some (.nilptr) := by kernel_rfl
@[simp] theorem Tryz.asize328 : asize Tryz.prog 328 = some 1 := by kernel_rfl
@[simp] theorem Tryz.info328 : Tryz.prog.info? 328 = some Tryz.t328 := by kernel_rfl
@[simp] theorem Tryz.tsize328 : Tryz.t328.size = 1 := by kernel_rfl
@[simp] theorem Tryz.tbytes328 : Tryz.t328.bytes = 8 := by kernel_rfl
@[simp] theorem Tryz.builder328 : builderTy Tryz.prog 328 = false := by kernel_rfl
@[simp] theorem Tryz.azero328 : azero Tryz.prog 328 = some (.nilptr) := by kernel_rfl
@[simp] theorem Tryz.asize329 : asize Tryz.prog 329 = some 1 := by kernel_rfl
@[simp] theorem Tryz.info329 : Tryz.prog.info? 329 = some Tryz.t329 := by kernel_rfl
@[simp] theorem Tryz.tsize329 : Tryz.t329.size = 1 := by kernel_rfl
@[simp] theorem Tryz.tbytes329 : Tryz.t329.bytes = 16 := by kernel_rfl
@[simp] theorem Tryz.builder329 : builderTy Tryz.prog 329 = false := by kernel_rfl
@[simp] theorem Tryz.azero329 : azero Tryz.prog 329 = some (.agg [.str []]) := by kernel_rfl
@[simp] theorem Tryz.asize330 : asize Tryz.prog 330 = some 1 := by kernel_rfl
@[simp] theorem Tryz.info330 : Tryz.prog.info? 330 = some Tryz.t330 := by kernel_rfl
@[simp] theorem Tryz.tsize330 : Tryz.t330.size = 1 := by kernel_rfl
@[simp] theorem Tryz.tbytes330 : Tryz.t330.bytes = 16 := by kernel_rfl
@[simp] theorem Tryz.builder330 : builderTy Tryz.prog 330 = false := by kernel_rfl
@[simp] theorem Tryz.azero330 : azero Tryz.prog 330 = some (.agg [.str []]) := by kernel_rfl
@[simp] theorem Tryz.asize331 : asize Tryz.prog 331 = some 1 := by kernel_rfl
@[simp] theorem Tryz.info331 : Tryz.prog.info? 331 = some Tryz.t331 := by kernel_rfl
@[simp] theorem Tryz.tsize331 : Tryz.t331.size = 1 := by kernel_rfl
@[simp] theorem Tryz.tbytes331 : Tryz.t331.bytes = 8 := by kernel_rfl
@[simp] theorem Tryz.builder331 : builderTy Tryz.prog 331 = false := by kernel_rfl
@[simp] theorem Tryz.azero331 : azero Tryz.prog 331 = some (.nilfunc) := by kernel_rfl
@[simp] theorem Tryz.asize332 : asize Tryz.prog 332 = some 20 := by kernel_rfl
@[simp] theorem Tryz.info332 : Tryz.prog.info? 332 = some Tryz.t332 := by kernel_rfl
@[simp] theorem Tryz.tsize332 : Tryz.t332.size = 20 := by kernel_rfl
@[simp] theorem Tryz.tbytes332 : Tryz.t332.bytes = 160 := by kernel_rfl
@[simp] theorem Tryz.builder332 : builderTy Tryz.prog 332 = false := by kernel_rfl
@[simp] theorem Tryz.azero332 : azero Tryz.prog 332 = some (.agg [.int .u64 (0), .int .u64 (0), .int .u64 (0), .int .u64 (0), .int .u64 (0), .int .u64 (0), .int .u64 (0), .int .u64 (0), .int .u64 (0), .int .u64 (0), .int .u64 (0), .int .u64 (0), .int .u64 (0), .int .u64 (0), .int .u64 (0), .int .u64 (0), .int .u64 (0), .int .u64 (0), .int .u64 (0), .int .u64 (0)]) := by kernel_rfl
@[simp] theorem Tryz.asize333 : asize Tryz.prog 333 = some 65 := by kernel_rfl
@[simp] theorem Tryz.info333 : Tryz.prog.info? 333 = some Tryz.t333 := by kernel_rfl
@[simp] theorem Tryz.tsize333 : Tryz.t333.size = 65 := by kernel_rfl
@[simp] theorem Tryz.tbytes333 : Tryz.t333.bytes = 65 := by kernel_rfl
@[simp] theorem Tryz.builder333 : builderTy Tryz.prog 333 = false := by kernel_rfl
@[simp] theorem Tryz.azero333 : azero Tryz.prog 333 = some (.agg [.int .u8 (0), .int .u8 (0), .int .u8 (0), .int .u8 (0), .int .u8 (0), .int .u8 (0), .int .u8 (0), .int .u8 (0), .int .u8 (0), .int .u8 (0), .int .u8 (0), .int .u8 (0), .int .u8 (0), .int .u8 (0), .int .u8 (0), .int .u8 (0), .int .u8 (0), .int .u8 (0), .int .u8 (0), .int .u8 (0), .int .u8 (0), .int .u8 (0), .int .u8 (0), .int .u8 (0), .int .u8 (0), .int .u8 (0), .int .u8 (0), .int .u8 (0), .int .u8 (0), .int .u8 (0), .int .u8 (0), .int .u8 (0), .int .u8 (0), .int .u8 (0), .int .u8 (0), .int .u8 (0), .int .u8 (0), .int .u8 (0), .int .u8 (0), .int .u8 (0), .int .u8 (0), .int .u8 (0), .int .u8 (0), .int .u8 (0), .int .u8 (0), .int .u8 (0), .int .u8 (0), .int .u8 (0), .int .u8 (0), .int .u8 (0), .int .u8 (0), .int .u8 (0), .int .u8 (0), .int .u8 (0), .int .u8 (0), .int .u8 (0), .int .u8 (0), .int .u8 (0), .int .u8 (0), .int .u8 (0), .int .u8 (0), .int .u8 (0), .int .u8 (0), .int .u8 (0), .int .u8 (0)]) := by kernel_rfl
@[simp] theorem Tryz.asize334 : asize Tryz.prog 334 = some 1 := by kernel_rfl
@[simp] theorem Tryz.info334 : Tryz.prog.info? 334 = some Tryz.t334 := by kernel_rfl
@[simp] theorem Tryz.tsize334 : Tryz.t334.size = 1 := by kernel_rfl
@[simp] theorem Tryz.tbytes334 : Tryz.t334.bytes = 8 := by kernel_rfl
@[simp] theorem Tryz.builder334 : builderTy Tryz.prog 334 = false := by kernel_rfl
@[simp] theorem Tryz.azero334 : azero Tryz.prog 334 = some (.nilfunc) := by kernel_rfl
@[simp] theorem Tryz.asize335 : asize Tryz.prog 335 = some 1 := by kernel_rfl
@[simp] theorem Tryz.info335 : Tryz.prog.info? 335 = some Tryz.t335 := by kernel_rfl
@[simp] theorem Tryz.tsize335 : Tryz.t335.size = 1 := by kernel_rfl
@[simp] theorem Tryz.tbytes335 : Tryz.t335.bytes = 8 := by kernel_rfl
@[simp] theorem Tryz.builder335 : builderTy Tryz.prog 335 = false := by kernel_rfl
@[simp] theorem Tryz.azero335 : azero Tryz.prog 335 = some (.nilfunc) := by kernel_rfl
@[simp] theorem Tryz.asize336 : asize Tryz.prog 336 = some 32 := by kernel_rfl
@[simp] theorem Tryz.info336 : Tryz.prog.info? 336 = some Tryz.t336 := by kernel_rfl
@[simp] theorem Tryz.tsize336 : Tryz.t336.size = 32 := by kernel_rfl
@[simp] theorem Tryz.tbytes336 : Tryz.t336.bytes = 32 := by kernel_rfl
@[simp] theorem Tryz.builder336 : builderTy Tryz.prog 336 = false := by kernel_rfl
@[simp] theorem Tryz.azero336 : azero Tryz.prog 336 = some (.agg [.int .u8 (0), .int .u8 (0), .int .u8 (0), .int .u8 (0), .int .u8 (0), .int .u8 (0), .int .u8 (0), .int .u8 (0), .int .u8 (0), .int .u8 (0), .int .u8 (0), .int .u8 (0), .int .u8 (0), .int .u8 (0), .int .u8 (0), .int .u8 (0), .int .u8 (0), .int .u8 (0), .int .u8 (0), .int .u8 (0), .int .u8 (0), .int .u8 (0), .int .u8 (0), .int .u8 (0), .int .u8 (0), .int .u8 (0), .int .u8 (0), .int .u8 (0), .int .u8 (0), .int .u8 (0), .int .u8 (0), .int .u8 (0)]) := by kernel_rfl
@[simp] theorem Tryz.asize337 : asize Tryz.prog 337 = some 64 := by kernel_rfl
@[simp] theorem Tryz.info337 : Tryz.prog.info? 337 = some Tryz.t337 := by kernel_rfl
@[simp] theorem Tryz.tsize337 : Tryz.t337.size = 64 := by kernel_rfl
@[simp] theorem Tryz.tbytes337 : Tryz.t337.bytes = 64 := by kernel_rfl
@[simp] theorem Tryz.builder337 : builderTy Tryz.prog 337 = false := by kernel_rfl
@[simp] theorem Tryz.azero337 : azero Tryz.prog 337 = some (.agg [.int .u8 (0), .int .u8 (0), .int .u8 (0), .int .u8 (0), .int .u8 (0), .int .u8 (0), .int .u8 (0), .int .u8 (0), .int .u8 (0), .int .u8 (0), .int .u8 (0), .int .u8 (0), .int .u8 (0), .int .u8 (0), .int .u8 (0), .int .u8 (0), .int .u8 (0), .int .u8 (0), .int .u8 (0), .int .u8 (0), .int .u8 (0), .int .u8 (0), .int .u8 (0), .int .u8 (0), .int .u8 (0), .int .u8 (0), .int .u8 (0), .int .u8 (0), .int .u8 (0), .int .u8 (0), .int .u8 (0), .int .u8 (0), .int .u8 (0), .int .u8 (0), .int .u8 (0), .int .u8 (0), .int .u8 (0), .int .u8 (0), .int .u8 (0), .int .u8 (0), .int .u8 (0), .int .u8 (0), .int .u8 (0), .int .u8 (0), .int .u8 (0), .int .u8 (0), .int .u8 (0), .int .u8 (0), .int .u8 (0), .int .u8 (0), .int .u8 (0), .int .u8 (0), .int .u8 (0), .int .u8 (0), .int .u8 (0), .int .u8 (0), .int .u8 (0), .int .u8 (0), .int .u8 (0), .int .u8 (0), .int .u8 (0), .int .u8 (0), .int .u8 (0), .int .u8 (0)]) := by kernel_rfl
@[simp] theorem Tryz.asize338 : asize Tryz.prog 338 = some 1 := by kernel_rfl
@[simp] theorem Tryz.info338 : Tryz.prog.info? 338 = some Tryz.t338 := by kernel_rfl
@[simp] theorem Tryz.tsize338 : Tryz.t338.size = 1 := by kernel_rfl
@[simp] theorem Tryz.tbytes338 : Tryz.t338.bytes = 8 := by kernel_rfl
@[simp] theorem Tryz.builder338 : builderTy Tryz.prog 338 = false := by kernel_rfl
@[simp] theorem Tryz.azero338 : azero Tryz.prog 338 = some (.nilfunc) := by kernel_rfl
@[simp] theorem Tryz.asize339 : asize Tryz.prog 339 = some 1 := by kernel_rfl
@[simp] theorem Tryz.info339 : Tryz.prog.info? 339 = some Tryz.t339 := by kernel_rfl
@[simp] theorem Tryz.tsize339 : Tryz.t339.size = 1 := by kernel_rfl
@[simp] theorem Tryz.tbytes339 : Tryz.t339.bytes = 8 := by kernel_rfl
@[simp] theorem Tryz.builder339 : builderTy Tryz.prog 339 = false := by kernel_rfl
@[simp] theorem Tryz.azero339 : azero Tryz.prog 339 = some (.nilfunc) := by kernel_rfl
@[simp] theorem Tryz.asize340 : asize Tryz.prog 340 = some 4 := by kernel_rfl
@[simp] theorem Tryz.info340 : Tryz.prog.info? 340 = some Tryz.t340 := by kernel_rfl
@[simp] theorem Tryz.tsize340 : Tryz.t340.size = 4 := by kernel_rfl
@[simp] theorem Tryz.tbytes340 : Tryz.t340.bytes = 40 := by kernel_rfl
@[simp] theorem Tryz.builder340 : builderTy Tryz.prog 340 = false := by kernel_rfl
@[simp] theorem Tryz.azero340 : azero Tryz.prog 340 = some (.agg [.nilptr, .nilptr, .nilptr, .str []]) := by kernel_rfl
@[simp] theorem Tryz.asize341 : asize Tryz.prog 341 = some 4 := by kernel_rfl
@[simp] theorem Tryz.info341 : Tryz.prog.info? 341 = some Tryz.t341 := by kernel_rfl
@[simp] theorem Tryz.tsize341 : Tryz.t341.size = 4 := by kernel_rfl
@[simp] theorem Tryz.tbytes341 : Tryz.t341.bytes = 40 := by kernel_rfl
@[simp] theorem Tryz.builder341 : builderTy Tryz.prog 341 = false := by kernel_rfl
@[simp] theorem Tryz.azero341 : azero Tryz.prog 341 = some (.agg [.nilptr, .nilptr, .nilptr, .str []]) := by kernel_rfl
@[simp] theorem Tryz.asize342 : asize Tryz.prog 342 = some 0 := by kernel_rfl
@[simp] theorem Tryz.info342 : Tryz.prog.info? 342 = some Tryz.t342 := by kernel_rfl
@[simp] theorem Tryz.tsize342 : Tryz.t342.size = 0 := by kernel_rfl
@[simp] theorem Tryz.tbytes342 : Tryz.t342.bytes = 0 := by kernel_rfl
@[simp] theorem Tryz.builder342 : builderTy Tryz.prog 342 = false := by kernel_rfl
@[simp] theorem Tryz.azero342 : azero Tryz.prog 342 = some (.agg []) := by kernel_rfl
@[simp] theorem Tryz.asize343 : asize Tryz.prog 343 = some 0 := by kernel_rfl
@[simp] theorem Tryz.info343 : Tryz.prog.info? 343 = some Tryz.t343 := by kernel_rfl
@[simp] theorem Tryz.tsize343 : Tryz.t343.size = 0 := by kernel_rfl
@[simp] theorem Tryz.tbytes343 : Tryz.t343.bytes = 0 := by kernel_rfl
@[simp] theorem Tryz.builder343 : builderTy Tryz.prog 343 = false := by kernel_rfl
@[simp] theorem Tryz.azero343 : azero Tryz.prog 343 = some (.agg []) := by kernel_rfl
@[simp] theorem Tryz.asize344 : asize Tryz.prog 344 = some 0 := by kernel_rfl
@[simp] theorem Tryz.info344 : Tryz.prog.info? 344 = some Tryz.t344 := by kernel_rfl
@[simp] theorem Tryz.tsize344 : Tryz.t344.size = 0 := by kernel_rfl
@[simp] theorem Tryz.tbytes344 : Tryz.t344.bytes = 0 := by kernel_rfl
@[simp] theorem Tryz.builder344 : builderTy Tryz.prog 344 = false := by kernel_rfl
@[simp] theorem Tryz.azero344 : azero Tryz.prog 344 = some (.agg []) := by kernel_rfl
@[simp] theorem Tryz.asize345 : asize Tryz.prog 345 = some 1 := by kernel_rfl
@[simp] theorem Tryz.info345 : Tryz.prog.info? 345 = some Tryz.t345 := by kernel_rfl
@[simp] theorem Tryz.tsize345 : Tryz.t345.size = 1 := by kernel_rfl
@[simp] theorem Tryz.tbytes345 : Tryz.t345.bytes = 1 := by kernel_rfl
@[simp] theorem Tryz.builder345 : builderTy Tryz.prog 345 = false := by kernel_rfl
@[simp] theorem Tryz.azero345 : azero Tryz.prog 345 = some (.int .u8 (0)) := by kernel_rfl
@[simp] theorem Tryz.asize346 : asize Tryz.prog 346 = some 1 := by kernel_rfl
@[simp] theorem Tryz.info346 : Tryz.prog.info? 346 = some Tryz.t346 := by kernel_rfl
@[simp] theorem Tryz.tsize346 : Tryz.t346.size = 1 := by kernel_rfl
@[simp] theorem Tryz.tbytes346 : Tryz.t346.bytes = 1 := by kernel_rfl
@[simp] theorem Tryz.builder346 : builderTy Tryz.prog 346 = false := by kernel_rfl
@[simp] theorem Tryz.azero346 : azero Tryz.prog 346 = some (.int .u8 (0)) := by kernel_rfl
@[simp] theorem Tryz.asize347 : asize Tryz.prog 347 = some 1 := by kernel_rfl
@[simp] theorem Tryz.info347 : Tryz.prog.info? 347 = some Tryz.t347 := by kernel_rfl
@[simp] theorem Tryz.tsize347 : Tryz.t347.size = 1 := by kernel_rfl
@[simp] theorem Tryz.tbytes347 : Tryz.t347.bytes = 8 := by kernel_rfl
@[simp] theorem Tryz.builder347 : builderTy Tryz.prog 347 = false := by kernel_rfl
@[simp] theorem Tryz.azero347 : azero Tryz.prog 347 = some (.nilfunc) := by kernel_rfl
@[simp] theorem Tryz.asize348 : asize Tryz.prog 348 = some 1 := by kernel_rfl
@[simp] theorem Tryz.info348 : Tryz.prog.info? 348 = some Tryz.t348 := by kernel_rfl
@[simp] theorem Tryz.tsize348 : Tryz.t348.size = 1 := by kernel_rfl
@[simp] theorem Tryz.tbytes348 : Tryz.t348.bytes = 4 := by kernel_rfl
@[simp] theorem Tryz.builder348 : builderTy Tryz.prog 348 = false := by kernel_rfl
@[simp] theorem Tryz.azero348 : azero Tryz.prog 348 = some (.int .i32 (0)) := by kernel_rfl
@[simp] theorem Tryz.asize349 : asize Tryz.prog 349 = some 1 := by kernel_rfl
@[simp] theorem Tryz.info349 : Tryz.prog.info? 349 = some Tryz.t349 := by kernel_rfl
@[simp] theorem Tryz.tsize349 : Tryz.t349.size = 1 := by kernel_rfl
@[simp] theorem Tryz.tbytes349 : Tryz.t349.bytes = 4 := by kernel_rfl
@[simp] theorem Tryz.builder349 : builderTy Tryz.prog 349 = false := by kernel_rfl
@[simp] theorem Tryz.azero349 : azero Tryz.prog 349 = some (.int .i32 (0)) := by kernel_rfl
@[simp] theorem Tryz.asize350 : asize Tryz.prog 350 = some 11 := by kernel_rfl
@[simp] theorem Tryz.info350 : Tryz.prog.info? 350 = some Tryz.t350 := by kernel_rfl
@[simp] theorem Tryz.tsize350 : Tryz.t350.size = 11 := by kernel_rfl
@[simp] theorem Tryz.tbytes350 : Tryz.t350.bytes = 48 := by kernel_rfl
@[simp] theorem Tryz.builder350 : builderTy Tryz.prog 350 = false := by kernel_rfl
@[simp] theorem Tryz.azero350 : azero Tryz.prog 350 = some (.agg [.int .u64 (0), .int .u64 (0), .int .u32 (0), .int .u8 (0), .int .u8 (0), .int .u8 (0), .int .u8 (0), .nilfunc, .nilptr, .int .i32 (0), .int .i32 (0)]) := by kernel_rfl
@[simp] theorem Tryz.asize351 : asize Tryz.prog 351 = some 11 := by kernel_rfl
@[simp] theorem Tryz.info351 : Tryz.prog.info? 351 = some Tryz.t351 := by kernel_rfl
@[simp] theorem Tryz.tsize351 : Tryz.t351.size = 11 := by kernel_rfl
@[simp] theorem Tryz.tbytes351 : Tryz.t351.bytes = 48 := by kernel_rfl
@[simp] theorem Tryz.builder351 : builderTy Tryz.prog 351 = false := by kernel_rfl
@[simp] theorem Tryz.azero351 : azero Tryz.prog 351 = some (.agg [.int .u64 (0), .int .u64 (0), .int .u32 (0), .int .u8 (0), .int .u8 (0), .int .u8 (0), .int .u8 (0), .nilfunc, .nilptr, .int .i32 (0), .int .i32 (0)]) := by kernel_rfl
@[simp] theorem Tryz.asize352 : asize Tryz.prog 352 = some 1 := by kernel_rfl
@[simp] theorem Tryz.info352 : Tryz.prog.info? 352 = some Tryz.t352 := by kernel_rfl
@[simp] theorem Tryz.tsize352 : Tryz.t352.size = 1 := by kernel_rfl
@[simp] theorem Tryz.tbytes352 : Tryz.t352.bytes = 8 := by kernel_rfl
@[simp] theorem Tryz.builder352 : builderTy Tryz.prog 352 = false := by kernel_rfl
@[simp] theorem Tryz.azero352 : azero Tryz.prog 352 = some (.nilptr) := by kernel_rfl
end Go.Proofs

/-
  Functions of Go's library on strings, walked: HasPrefix, TrimLeft, IndexByte, Contains, slices.Contains.
-/



namespace Go.Proofs.YthmnpnbcdoemfaaGreatDoor
open Go Go.Abs Go.Lex
set_option linter.unusedSimpArgs false
variable {G : Nat → Option AV}

theorem hasPrefixL (s p : List UInt8) (H : AHeap) : Does Tryz.prog G 158 [.str s, .str p] H fun r H' => r = .bool (p.isPrefixOf s) ∧ H' = H := by
  refine does_f Tryz.call158 Tryz.func158 rfl (by simp [Tryz.f158]) ?_
  by_cases h : p.length ≤ s.length
  · have h1 : (p.length : Int) ≤ s.length := by omega
    simp [h, h1]
    rw [Bool.eq_iff_iff, List.isPrefixOf_iff_prefix, List.prefix_iff_eq_take]
    simp
    exact eq_comm
  · have h1 : ¬ (p.length : Int) ≤ s.length := by omega
    have h2 : p.isPrefixOf s = false := by
      rw [Bool.eq_false_iff]
      intro e
      exact h (List.isPrefixOf_iff_prefix.1 e).length_le
    simp [h, h1, h2]

theorem hasPrefix (s p : List UInt8) (H : AHeap) : Does Tryz.prog G 105 [.str s, .str p] H fun r H' => r = .bool (p.isPrefixOf s) ∧ H' = H := by
  refine does_f Tryz.call105 Tryz.func105 rfl (by simp [Tryz.f105]) ?_
  simp
  refine does_use (hasPrefixL s p H) ?_
  rintro _ _ ⟨rfl, rfl⟩
  simp

theorem asciiContains (H : AHeap) (i : Nat) (cs : List AV) (b : UInt8) (v : Bool) (h : H.get i = some (.cells cs)) (hl : cs.length = 256) (hv : cs[b.toNat]? = some (.bool v)) :
    Does Tryz.prog G 216 [.ptr i 0, .int .u8 b.toNat] H fun r H' => r = .bool v ∧ H' = H := by
  have hb := b.toNat_lt
  have h1 : (b.toNat : Int) < 256 := by omega
  have h2 : b.toNat ≤ 256 := by omega
  refine does_f Tryz.call216 Tryz.func216 rfl (by simp [Tryz.f216]) ?_
  simp [h, hl, hv, h1, h2]

/-- The cells of a set of bytes. -/
def asciiCells (l : List UInt8) : List AV := (List.range 256).map fun k => .bool (l.any fun b => b.toNat == k)
@[simp] theorem asciiCells_length (l : List UInt8) : (asciiCells l).length = 256 := by simp [asciiCells]
theorem asciiCells_get (l : List UInt8) (b : UInt8) : (asciiCells l)[b.toNat]? = some (.bool (l.contains b)) := by
  have hb := b.toNat_lt
  simp only [asciiCells, List.getElem?_map]
  rw [List.getElem?_range hb]
  simp only [Option.map_some, Option.some.injEq, AV.bool.injEq]
  rw [Bool.eq_iff_iff]
  simp only [List.any_eq_true, beq_iff_eq, List.contains_iff_mem]
  constructor
  · rintro ⟨x, hx, e⟩
    rw [← UInt8.toNat_inj.1 e]; exact hx
  · intro h; exact ⟨b, h, rfl⟩
theorem asciiCells_set (l : List UInt8) (b : UInt8) : (asciiCells l).set b.toNat (.bool true) = asciiCells (l ++ [b]) := by
  apply List.ext_getElem?
  intro k
  rw [List.getElem?_set]
  simp only [asciiCells, List.getElem?_map, List.length_map, List.length_range]
  by_cases hk : k < 256
  · rw [List.getElem?_range hk]
    by_cases e : b.toNat = k
    · subst e; simp [hk]
    · rw [if_neg e]
      simp [e]
  · have : (List.range 256)[k]? = none := List.getElem?_eq_none (by simp; omega)
    rw [this]
    split <;> simp
    omega
theorem asciiCells_nil : asciiCells [] = List.replicate 256 (.bool false) := by
  apply List.ext_getElem?
  intro k
  simp only [asciiCells, List.getElem?_map, List.getElem?_replicate]
  by_cases hk : k < 256
  · rw [List.getElem?_range hk, if_pos hk]; rfl
  · rw [List.getElem?_eq_none (by rw [List.length_range]; omega), if_neg hk]; rfl
end Go.Proofs.YthmnpnbcdoemfaaGreatDoor

/-
  A simplified meaning for Go code: loops on a walk by simp; a closed call over any heap.
-/

namespace Go.Abs
open Go

theorem aws_loop {X : Ctx} {c : Code} {Q : Post} {T : Nat → AV} {H : AHeap} (I : Nat → (Nat → AV) → AHeap → Prop) (n : Nat) (h0 : I n T H)
    (round : ∀ n T H, I n T H → @AWf ⟨X⟩ ⟨c⟩ ⟨QThen (fun T' H' => ∃ m, m < n ∧ I m T' H') Q⟩ ⟨T⟩ H) : @AWs ⟨X⟩ ⟨.loop c⟩ ⟨Q⟩ ⟨T⟩ H :=
  aw_loop I n h0 fun n T H h => awf_of (round n T H h)

/-- What is there when code runs is well formed. -/
theorem aw_wf {P : Program} {G : Nat → Option AV} {N : Nat} {c : Code} {Q : Post} {T : Nat → AV} {H : AHeap} (h : H.Wf → (∀ t, (T t).idLt H.next = true) → AW P G N c Q T H) : AW P G N c Q T H := by
  intro E0 a w hG hs
  obtain ⟨⟨E, hx, hR, hT⟩, hd⟩ := hs
  exact h hR.wf (fun t => VRel.idLt hR.dom (hT.rel t)) E0 a w hG ⟨⟨E, hx, hR, hT⟩, hd⟩

/-- A loop, with what is well formed at each round's head. -/
theorem aws_loopw {X : Ctx} {c : Code} {Q : Post} {T : Nat → AV} {H : AHeap} (I : Nat → (Nat → AV) → AHeap → Prop) (n : Nat) (h0 : I n T H)
    (round : ∀ n T H, I n T H → H.Wf → (∀ t, (T t).idLt H.next = true) → @AWf ⟨X⟩ ⟨c⟩ ⟨QThen (fun T' H' => ∃ m, m < n ∧ I m T' H') Q⟩ ⟨T⟩ H) : @AWs ⟨X⟩ ⟨.loop c⟩ ⟨Q⟩ ⟨T⟩ H :=
  aw_loop I n h0 fun n T H h => aw_wf fun hw ht => awf_of (round n T H h hw ht)

theorem over_empty (H : AHeap) : (AHeap.empty 0).over H = H := by
  refine AHeap.ext' rfl fun i => ?_
  show (match H.get i with | some x => some x | none => none) = H.get i
  cases H.get i <;> rfl

/-- A call without arguments that answers b over the empty heap does so over any heap. -/
theorem Does.closed {P : Program} {f : FuncId} {b : Bool} (h : Does P (fun _ => none) f [] (AHeap.empty 0) fun r _ => r = .bool b) (H : AHeap) : Does P (fun _ => none) f [] H fun r H' => r = .bool b ∧ H' = H := by
  refine ⟨fun E w vs hR hG hv => ?_⟩
  have hR' : Rel E ((AHeap.empty 0).over H) w := by rw [over_empty]; exact hR
  have ha : Rel (E.aside H w 0) (AHeap.empty 0) w := Rel.aside hR' (fun _ _ _ => Nat.zero_le _) (fun i x hi => by simp [AHeap.empty] at hi) (fun i x hi => by simp [AHeap.empty] at hi)
  cases hv
  refine (h.run _ w [] ha (fun _ _ h => by simp at h) .nil).mono ?_
  rintro v w' ⟨r, H', E', rfl, hx, hvr, hR2⟩
  cases hvr
  refine ⟨.bool b, H, E, ⟨rfl, rfl⟩, Ext.refl E, .bool b, ?_⟩
  refine ⟨hR2.os.trans hx.os, hR2.out.trans hx.out, fun B o hB => hR2.K _ _ (hx.K B o hB), fun B o hB => ?_, hR.KF, hR.dom, fun i x hi => ?_, hR.inj⟩
  · refine hR2.F _ _ ?_
    rw [hx.F]
    simp only [Env.aside, hB]
  · obtain ⟨p, ob, g1, g2, g3, g4, g5⟩ := hR.live i x hi
    refine ⟨p, ob, g1, g2, g3, hR2.F _ _ ?_, g5⟩
    rw [hx.F]
    simp only [Env.aside, g3]
    rw [if_pos ⟨i, x, p, hi, g1, rfl⟩]
    exact g4
end Go.Abs

/-
  Functions of Go's library on strings, walked: TrimLeft, IndexByte, Contains, slices.Contains.
-/


namespace Go.Proofs.YthmnpnbcdoemfaaGreatDoor
open Go Go.Abs Go.Lex
set_option linter.unusedSimpArgs false
variable {G : Nat → Option AV}

@[simp] theorem take_ascii (l : List UInt8) : List.take 256 (asciiCells l) = asciiCells l := by rw [List.take_of_length_le]; simp

@[simp] theorem zeroSet : azero Tryz.prog 282 = some (.agg (asciiCells [])) := by kernel_rfl

@[simp] theorem drop_ascii (l : List UInt8) : List.drop 256 (asciiCells l) = [] := by rw [List.drop_of_length_le]; simp
@[simp] theorem ascii_scalar (l : List UInt8) : (∀ x ∈ asciiCells l, x.scalar = true) = True := by
  simp only [eq_iff_iff, iff_true]
  intro x hx
  simp only [asciiCells, List.mem_map] at hx
  obtain ⟨k, _, rfl⟩ := hx
  rfl
theorem ascii_splice (l : List UInt8) (c : UInt8) : List.take c.toNat (asciiCells l) ++ AV.bool true :: List.drop (c.toNat + 1) (asciiCells l) = asciiCells (l ++ [c]) := by
  have hc := c.toNat_lt
  rw [← asciiCells_set, List.set_eq_take_append_cons_drop, if_pos (by rw [asciiCells_length]; omega)]

theorem makeSet (chars : List UInt8) (hc : ∀ b ∈ chars, b.toNat < 128) (hl : chars.length ≤ 1000000) (H : AHeap) : Does Tryz.prog G 193 [.str chars] H fun r H' => r = .tuple [.agg (asciiCells chars), .bool true] ∧ H' = H.push (.cells (asciiCells chars)) := by
  refine does_f Tryz.call193 Tryz.func193 rfl (by simp [Tryz.f193]) ?_
  simp
  refine aws_loop (fun m T' H' => ∃ a b, chars = a ++ b ∧ m = b.length ∧ T' 0 = .str chars ∧ T' 2 = .ptr H.next 0 ∧ T' 4 = .int .i64 a.length ∧ H' = H.push (.cells (asciiCells a))) chars.length ⟨[], chars, rfl, rfl, by simp⟩ ?_
  rintro m T H' ⟨a, b, rfl, rfl, h0, h2, h4, rfl⟩
  cases b with
  | nil => simp [h0, h2, h4]
  | cons c b =>
    have hlt : (a.length : Int) < a.length + (b.length + 1) := by omega
    have hc1 : c.toNat < 128 := hc c (by simp)
    have hc2 : ¬ (128 : Int) ≤ c.toNat := by omega
    have hc3 : (c.toNat : Int) < 256 := by omega
    have hc4 : c.toNat ≤ 255 := by omega
    have hw : IntKind.i64.wrap ((a.length : Int) + 1) = a.length + 1 := by
      simp only [List.length_append, List.length_cons] at hl
      exact IntWalk.i64_in _ (by omega)
    simp [h0, h2, h4, hlt, hc2, hc3, hc4, ascii_splice, hw]
    refine ⟨b.length, by omega, a ++ [c], b, by simp, rfl, ?_⟩
    simp

theorem trimASCII (s set : List UInt8) (p : UInt8 → Bool) (hp : ∀ b, set.contains b = p b) (i : Nat) (H : AHeap) (h : H.get i = some (.cells (asciiCells set))) : Does Tryz.prog G 194 [.str s, .ptr i 0] H fun r H' => r = .str (s.dropWhile p) ∧ H' = H := by
  refine does_f Tryz.call194 Tryz.func194 rfl (by simp [Tryz.f194]) ?_
  simp
  refine aws_loop (fun m T' H' => ∃ q : List UInt8, s.dropWhile p = q.dropWhile p ∧ m = q.length ∧ T' 0 = .str q ∧ T' 1 = .ptr i 0 ∧ H' = H) s.length ⟨s, rfl, rfl, by simp⟩ ?_
  rintro m T H' ⟨q, hq, rfl, h0, h1, rfl⟩
  rw [hq]
  cases q with
  | nil => simp [h0, h1]
  | cons b q =>
    have hl : (0 : Int) < q.length + 1 := by omega
    have hl2 : (1 : Int) ≤ q.length + 1 := by omega
    simp [h0, h1, hl]
    refine does_use (asciiContains H' i _ b _ h (by simp) (asciiCells_get set b)) ?_
    rintro _ _ ⟨rfl, rfl⟩
    rw [hp]
    cases hb : p b with
    | true =>
      simp [h0, h1, hb, hl, hl2]
    | false => simp [h0, h1, hb]

theorem trimLeft (s set : List UInt8) (p : UInt8 → Bool) (hp : ∀ b, set.contains b = p b) (hc : ∀ b ∈ set, b.toNat < 128) (hl : set.length ≤ 1000000) (h2 : 2 ≤ set.length) (H : AHeap) : Does Tryz.prog G 157 [.str s, .str set] H fun r H' => r = .str (s.dropWhile p) ∧ H' = H := by
  refine Does.forgot (R := fun r H' => r = .str (s.dropWhile p) ∧ ∀ j x, H.get j = some x → H'.get j = some x) ?_ ?_
  · refine Does.wf Tryz.call157 fun hw _ => ?_
    have old : ∀ j x, H.get j = some x → j ≠ H.next ∧ j ≠ H.next + 1 := fun j x hj => by have := next_lt hw hj; omega
    refine does_f Tryz.call157 Tryz.func157 rfl (by simp [Tryz.f157]) ?_
    have hne : set ≠ [] := fun e => by subst e; simp at h2
    have hn1 : ¬ (set.length : Int) = 1 := by omega
    cases hs : s with
    | nil => simp
    | cons b q =>
      rw [← hs]
      have hs1 : s.isEmpty = false := by rw [hs]; rfl
      have hs2 : set.isEmpty = false := by cases set <;> simp_all
      simp [hs1, hs2, hn1]
      refine does_use (makeSet set hc hl H) ?_
      rintro _ _ ⟨rfl, rfl⟩
      simp
      refine does_use (trimASCII s set p hp _ _ (by simp)) ?_
      rintro _ _ ⟨rfl, rfl⟩
      simp
      intro j x hj
      simp [hj, old j x hj]
  · rintro hw ha r H1 ⟨rfl, h⟩
    exact ⟨h, rfl, rfl, rfl⟩

/-- IndexByteString, the model's own. -/
theorem isIdx : IsIdx Tryz.prog 196 := ⟨⟨Tryz.f196, Tryz.func196, by kernel_rfl, by kernel_rfl, by kernel_rfl, by kernel_rfl⟩⟩

/-- Where a byte stands first; -1: nowhere. -/
def idxB (s : List UInt8) (c : UInt8) : Int := match s.findIdx? (fun b => b == c) with
  | some i => i
  | none => -1

theorem idxB_eq (c : UInt8) : ∀ s : List UInt8, Go.Lib.indexByte s c = idxB s c
  | [] => rfl
  | b :: s => by
    rw [indexByte_cases, idxB_eq c s]
    unfold idxB
    rw [List.findIdx?_cons]
    by_cases h : b = c
    · subst h; simp
    · simp only [h, if_false, beq_iff_eq]
      cases hf : List.findIdx? (fun b => b == c) s with
      | none => simp
      | some i =>
        simp only [Option.map_some]
        rw [if_neg (by omega)]
        omega

theorem indexByteL (s : List UInt8) (c : UInt8) (H : AHeap) : Does Tryz.prog G 159 [.str s, .int .u8 c.toNat] H fun r H' => r = .int .i64 (idxB s c) ∧ H' = H := by
  refine does_f Tryz.call159 Tryz.func159 rfl (by simp [Tryz.f159]) ?_
  simp
  refine does_use (idx_does isIdx s c.toNat H) ?_
  rintro _ _ ⟨rfl, rfl⟩
  have e : ((c.toNat : Int).toNat).toUInt8 = c := by simp
  rw [e, idxB_eq]
  simp

theorem indexByte (s : List UInt8) (c : UInt8) (H : AHeap) : Does Tryz.prog G 106 [.str s, .int .u8 c.toNat] H fun r H' => r = .int .i64 (idxB s c) ∧ H' = H := by
  refine does_f Tryz.call106 Tryz.func106 rfl (by simp [Tryz.f106]) ?_
  simp
  refine does_use (indexByteL s c H) ?_
  rintro _ _ ⟨rfl, rfl⟩
  simp

theorem index1L (s : List UInt8) (c : UInt8) (H : AHeap) : Does Tryz.prog G 197 [.str s, .str [c]] H fun r H' => r = .int .i64 (idxB s c) ∧ H' = H := by
  refine does_f Tryz.call197 Tryz.func197 rfl (by simp [Tryz.f197]) ?_
  by_cases h : [c] = s
  · subst h
    simp [idxB]
  · have h1 : ([c] == s) = false := by simpa using h
    simp [h1]
    refine does_use (indexByteL s c H) ?_
    rintro _ _ ⟨rfl, rfl⟩
    simp

theorem contains1 (s : List UInt8) (c : UInt8) (H : AHeap) : Does Tryz.prog G 107 [.str s, .str [c]] H fun r H' => r = .bool (s.contains c) ∧ H' = H := by
  have hk : ∀ H : AHeap, Does Tryz.prog G 160 [.str s, .str [c]] H fun r H' => r = .int .i64 (idxB s c) ∧ H' = H := by
    intro H
    refine does_f Tryz.call160 Tryz.func160 rfl (by simp [Tryz.f160]) ?_
    simp
    refine does_use (index1L s c H) ?_
    rintro _ _ ⟨rfl, rfl⟩
    simp
  refine does_f Tryz.call107 Tryz.func107 rfl (by simp [Tryz.f107]) ?_
  simp
  refine does_use (hk H) ?_
  rintro _ _ ⟨rfl, rfl⟩
  simp
  unfold idxB
  cases hf : s.findIdx? (fun b => b == c) with
  | none =>
    rw [List.findIdx?_eq_none_iff] at hf
    have : c ∉ s := fun h => by have := hf c h; simp at this
    simp [this]
  | some i =>
    have h := List.findIdx?_eq_some_iff_getElem.1 hf
    obtain ⟨hi, h1, _⟩ := h
    have : c ∈ s := by
      have e : s[i] = c := by simpa using h1
      rw [← e]; exact List.getElem_mem hi
    simp [this]
end Go.Proofs.YthmnpnbcdoemfaaGreatDoor

/-
  Words: slices.Contains over strings; while, Kept, sign, between.
-/

namespace Go.Proofs.YthmnpnbcdoemfaaGreatDoor
open Go Go.Abs Go.Lex
set_option linter.unusedSimpArgs false
variable {G : Nat → Option AV}

theorem sliceIndex (l : List Bs) (s : Bs) (i c : Nat) (op : Bool) (H : AHeap) (hi : H.get i = some (.cells (l.map .str))) (hl : l.length ≤ 1000000) :
    Does Tryz.prog G 198 [.sl i 0 1 l.length c op, .str s] H fun r H' => (if l.contains s then ∃ k : Nat, r = .int .i64 k else r = .int .i64 (-1)) ∧ H' = H := by
  refine does_f Tryz.call198 Tryz.func198 rfl (by simp [Tryz.f198]) ?_
  simp
  refine aws_loop (fun m T' H' => ∃ a b, l = a ++ b ∧ m = b.length ∧ s ∉ a ∧ T' 0 = .sl i 0 1 l.length c op ∧ T' 1 = .str s ∧ T' 7 = .int .i64 l.length ∧ T' 8 = .int .i64 a.length ∧ H' = H) l.length ⟨[], l, rfl, rfl, by simp, by simp⟩ ?_
  rintro m T H' ⟨a, b, rfl, rfl, hn, h0, h1, h7, h8, rfl⟩
  simp only [List.length_append] at hl h0 h7
  cases b with
  | nil => simp [h0, h1, h7, h8, hn]
  | cons t b =>
    simp only [List.length_cons] at hl
    have hlt : (a.length : Int) < a.length + (b.length + 1) := by omega
    have hle : a.length ≤ a.length + (b.length + 1) := by omega
    have hw : IntKind.i64.wrap ((a.length : Int) + 1) = a.length + 1 := IntWalk.i64_in _ (by omega)
    have hd : List.drop a.length (List.map AV.str a) = [] := by rw [List.drop_of_length_le]; simp
    by_cases e : s = t
    · subst e
      simp [h0, h1, h7, h8, hi, hlt, hle, hw, hd]
      exact ⟨a.length, rfl⟩
    · have e1 : (s == t) = false := by simpa using e
      simp [h0, h1, h7, h8, hi, hlt, hle, hw, hd, e1]
      exact ⟨b.length, by omega, a ++ [t], b, by simp, rfl, by simp [hn, e], by simp⟩

theorem sliceContains (l : List Bs) (s : Bs) (i c : Nat) (op : Bool) (H : AHeap) (hi : H.get i = some (.cells (l.map .str))) (hl : l.length ≤ 1000000) :
    Does Tryz.prog G 161 [.sl i 0 1 l.length c op, .str s] H fun r H' => r = .bool (l.contains s) ∧ H' = H := by
  refine does_f Tryz.call161 Tryz.func161 rfl (by simp [Tryz.f161]) ?_
  simp
  refine does_use (sliceIndex l s i c op H hi hl) ?_
  rintro r _ ⟨hr, rfl⟩
  cases hc : l.contains s with
  | true =>
    rw [hc, if_pos rfl] at hr
    obtain ⟨k, rfl⟩ := hr
    simp
  | false =>
    rw [hc] at hr
    simp only [Bool.false_eq_true, if_false] at hr
    subst hr
    simp

set_option maxRecDepth 100000 in
theorem kept_does (s : Bs) (H : AHeap) : Does Tryz.prog G 108 [.str s] H fun r H' => r = .bool (kept s) ∧ H' = H := by
  refine Does.forgot (R := fun r H' => r = .bool (kept s) ∧ ∀ j x, H.get j = some x → H'.get j = some x) ?_ ?_
  · refine Does.wf Tryz.call108 fun hw _ => ?_
    have old : ∀ j x, H.get j = some x → j ≠ H.next := fun j x hj => by have := next_lt hw hj; omega
    refine does_f Tryz.call108 Tryz.func108 rfl (by simp [Tryz.f108]) ?_
    simp
    refine does_use (sliceContains keptWords s H.next 21 false (H.push (.cells (keptWords.map .str))) (by simp) (by decide)) ?_
    rintro _ _ ⟨rfl, rfl⟩
    simp [kept]
    intro j x hj
    simp [hj, old j x hj]
  · rintro hw ha r H1 ⟨rfl, h⟩
    exact ⟨h, rfl, rfl, rfl⟩

theorem while_does (s set : Bs) (p : UInt8 → Bool) (hp : ∀ b, set.contains b = p b) (hc : ∀ b ∈ set, b.toNat < 128) (hl : set.length ≤ 1000000) (h2 : 2 ≤ set.length) (hs : s.length ≤ 1000000) (H : AHeap) :
    Does Tryz.prog G 104 [.str s, .str set] H fun r H' => r = .int .i64 (s.takeWhile p).length ∧ H' = H := by
  refine does_f Tryz.call104 Tryz.func104 rfl (by simp [Tryz.f104]) ?_
  simp
  refine does_use (trimLeft s set p hp hc hl h2 H) ?_
  rintro _ _ ⟨rfl, rfl⟩
  have e : s.length = (s.takeWhile p).length + (s.dropWhile p).length := by rw [← List.length_append, List.takeWhile_append_dropWhile]
  have hw : IntKind.i64.wrap ((s.length : Int) - (s.dropWhile p).length) = (s.takeWhile p).length := by
    rw [IntWalk.i64_in _ (by omega)]; omega
  simp [hw]

set_option maxRecDepth 100000 in
theorem sign_does (s : Bs) (H : AHeap) : Does Tryz.prog G 110 [.str s] H fun r H' => (match signOf s with | some t => r = .tuple [.agg [.int .i64 4, .str t, .int .i64 0, .int .i64 0], .bool true] | none => r = .tuple [.agg [.int .i64 0, .str [], .int .i64 0, .int .i64 0], .bool false]) ∧ H' = H := by
  refine Does.forgot (R := fun r H' => (match signOf s with | some t => r = .tuple [.agg [.int .i64 4, .str t, .int .i64 0, .int .i64 0], .bool true] | none => r = .tuple [.agg [.int .i64 0, .str [], .int .i64 0, .int .i64 0], .bool false]) ∧ ∀ j x, H.get j = some x → H'.get j = some x) ?_ ?_
  · refine Does.wf Tryz.call110 fun hw _ => ?_
    have old : ∀ j x, H.get j = some x → j ≠ H.next ∧ j ≠ H.next + 1 := fun j x hj => by have := next_lt hw hj; omega
    have hkeep : ∀ x y, ∀ j z, H.get j = some z → ((H.push x).push y).get j = some z := fun x y j z hj => by simp [hj, old j z hj]
    refine does_f Tryz.call110 Tryz.func110 rfl (by simp [Tryz.f110]) ?_
    simp
    refine aws_loop (fun m T' H' => ∃ a b, signs = a ++ b ∧ m = b.length ∧ a.find? (fun x => x.isPrefixOf s) = none ∧ T' 0 = .str s ∧ T' 2 = .ptr H.next 0 ∧ T' 6 = .sl (H.next + 1) 0 1 16 16 false ∧ T' 7 = .int .i64 16 ∧ T' 8 = .int .i64 a.length ∧ T' 3 = .bool false ∧
      H' = (H.push (.cells [.int .i64 0, .str [], .int .i64 0, .int .i64 0])).push (.cells (signs.map .str))) 16 ⟨[], signs, rfl, rfl, rfl, by simp [signs]⟩ ?_
    rintro m T H' ⟨a, b, hab, rfl, hn, h0, h2, h6, h7, h8, h3, rfl⟩
    have hlen : a.length + b.length = 16 := by rw [← List.length_append, ← hab]; rfl
    cases b with
    | nil =>
      have ha : a.length = 16 := by simpa using hlen
      have hs : signOf s = none := by
        unfold signOf
        rw [hab, List.append_nil]; exact hn
      simp [h0, h2, h6, h7, h8, ha, hs]
      intro j x hj
      simp [hj, old j x hj]
    | cons t b =>
      simp only [List.length_cons] at hlen
      have hlt : (a.length : Int) < 16 := by omega
      have hlt2 : a.length ≤ 16 := by omega
      have hlt3 : a.length < 16 := by omega
      have hw1 : IntKind.i64.wrap ((a.length : Int) + 1) = a.length + 1 := IntWalk.i64_in _ (by omega)
      have hd : List.drop a.length (List.map AV.str signs) = .str t :: b.map .str := by
        rw [hab, List.map_append, List.drop_left' (by simp)]; rfl
      have hsl : signs.length = 16 := rfl
      simp [h0, h2, h6, h7, h8, hlt, hlt2, hlt3, hd, hsl]
      refine does_use (hasPrefix s t _) ?_
      rintro _ _ ⟨rfl, rfl⟩
      cases hp : t.isPrefixOf s with
      | true =>
        have hs : signOf s = some t := by
          unfold signOf
          rw [hab, List.find?_append, hn]
          simp [hp]
        simp [h0, h2, h6, h7, h8, hs]
        intro j x hj
        simp [hj, old j x hj]
      | false =>
        simp [h0, h2, h6, h7, h8, hw1]
        refine ⟨b.length, by omega, a ++ [t], b, by simp [hab], rfl, ?_, ?_⟩
        · rw [List.find?_eq_none] at hn
          intro x hx
          simp only [List.mem_append, List.mem_singleton] at hx
          rcases hx with hx | rfl
          · have := hn x hx
            rw [← List.isPrefixOf_iff_prefix]; simpa using this
          · rw [← List.isPrefixOf_iff_prefix, hp]; simp
        · simp [h3]
  · rintro hw ha r H1 ⟨hr, h⟩
    refine ⟨h, ?_, hr, rfl⟩
    cases hs : signOf s <;> rw [hs] at hr <;> subst hr <;> rfl
end Go.Proofs.YthmnpnbcdoemfaaGreatDoor

/-
  Words: between.
-/

namespace Go.Proofs.YthmnpnbcdoemfaaGreatDoor
open Go Go.Abs Go.Lex
set_option linter.unusedSimpArgs false
variable {G : Nat → Option AV}

theorem drop_takeWhile (p : UInt8 → Bool) : ∀ s : Bs, s.drop (s.takeWhile p).length = s.dropWhile p
  | [] => rfl
  | b :: s => by
    rw [List.takeWhile_cons, List.dropWhile_cons]
    split
    · simpa using drop_takeWhile p s
    · rfl

theorem betw_line (s q : Bs) (h : s.dropWhile isBlank = 45 :: 45 :: q) : betw s = betw (q.dropWhile fun b => b != 10) := by
  rw [betw]
  split
  · rename_i q' h'
    rw [h] at h'
    simp only [List.cons.injEq, true_and] at h'
    rw [h']
  · rename_i h'
    exact absurd h (h' q)
theorem betw_word (s : Bs) (h : ([45, 45] : Bs).isPrefixOf (s.dropWhile isBlank) = false) : betw s = s.dropWhile isBlank := by
  rw [betw]
  split
  · rename_i q hq
    rw [hq] at h
    simp [List.isPrefixOf] at h
  · rfl
theorem betw_nil : betw [] = [] := betw_word [] rfl
@[simp] theorem take_drop_all {α : Type} (l : List α) (n : Nat) : List.take (l.length - n) (l.drop n) = l.drop n := by rw [List.take_of_length_le]; simp

theorem idxB_none {s : Bs} {c : UInt8} (h : s.findIdx? (fun b => b == c) = none) : s.dropWhile (fun b => b != c) = [] := by
  rw [List.findIdx?_eq_none_iff] at h
  induction s with
  | nil => rfl
  | cons b s ih =>
    rw [List.dropWhile_cons]
    have := h b (by simp)
    have e : (b != c) = true := by simp only [bne, this]; rfl
    rw [if_pos e]
    exact ih fun x hx => h x (by simp [hx])

theorem idxB_some {s : Bs} {c : UInt8} {i : Nat} (h : s.findIdx? (fun b => b == c) = some i) : s.dropWhile (fun b => b != c) = s.drop i ∧ i < s.length := by
  induction s generalizing i with
  | nil => simp at h
  | cons b s ih =>
    rw [List.findIdx?_cons] at h
    rw [List.dropWhile_cons]
    by_cases e : b = c
    · subst e
      simp at h
      subst h
      simp
    · have e1 : (b == c) = false := by simpa using e
      have e2 : (b != c) = true := by simp [bne, e1]
      rw [e1] at h
      simp only [Bool.false_eq_true, if_false, Option.map_eq_some_iff] at h
      obtain ⟨j, hj, rfl⟩ := h
      obtain ⟨h1, h2⟩ := ih hj
      rw [if_pos e2]
      exact ⟨by simpa using h1, by simp; omega⟩

theorem blankSet (b : UInt8) : ([32, 9, 10, 13] : Bs).contains b = isBlank b := by
  rw [Bool.eq_iff_iff]
  simp [isBlank, or_assoc]

theorem between_does (s : Bs) (hl : s.length ≤ 1000000) (H : AHeap) : Does Tryz.prog G 52 [.str s] H fun r H' => (∃ n : Nat, r = .int .i64 n ∧ n ≤ s.length ∧ s.drop n = betw s) ∧ H' = H := by
  refine does_f Tryz.call52 Tryz.func52 rfl (by simp [Tryz.f52]) ?_
  simp
  refine aws_loop (fun m T' H' => ∃ n : Nat, n ≤ s.length ∧ m = s.length - n ∧ betw (s.drop n) = betw s ∧ T' 0 = .str s ∧ T' 3 = .int .i64 n ∧ H' = H) s.length ⟨0, by omega, by omega, rfl, by simp⟩ ?_
  rintro m T H' ⟨n, hn, rfl, hb, h0, h3, rfl⟩
  have hn1 : (n : Int) ≤ s.length := by omega
  simp [h0, h3, hn, hn1]
  have hdl : (s.drop n).length = s.length - n := by simp
  refine does_use (while_does (s.drop n) _ isBlank blankSet (by decide) (by decide) (by decide) (by omega) _) ?_
  rintro _ _ ⟨rfl, rfl⟩
  have htl : ((s.drop n).takeWhile isBlank).length ≤ s.length - n := by
    rw [← hdl]; exact (List.takeWhile_prefix isBlank).length_le
  have hdd : s.drop (n + ((s.drop n).takeWhile isBlank).length) = (s.drop n).dropWhile isBlank := by
    rw [← List.drop_drop, drop_takeWhile]
  obtain ⟨k, hk⟩ : ∃ k, k = ((s.drop n).takeWhile isBlank).length := ⟨_, rfl⟩
  rw [← hk] at htl hdd ⊢
  obtain ⟨j, hj⟩ : ∃ j, j = n + k := ⟨_, rfl⟩
  have hw1 : IntKind.i64.wrap ((n : Int) + k) = (j : Int) := by rw [IntWalk.i64_in _ (by omega)]; omega
  have hk1 : (j : Int) ≤ s.length := by omega
  have hk2 : j ≤ s.length := by omega
  rw [← hj] at hdd
  simp [h0, h3, hw1, hk1, hk2]
  refine does_use (hasPrefix (s.drop j) [45, 45] _) ?_
  rintro _ _ ⟨rfl, rfl⟩
  cases hp : ([45, 45] : Bs).isPrefixOf (s.drop j) with
  | false =>
    simp [h0, h3]
    refine ⟨j, rfl, hk2, ?_⟩
    rw [← hb, betw_word _ (by rw [← hdd]; exact hp), hdd]
  | true =>
    simp [h0, h3, hk1, hk2]
    refine does_use (indexByte (s.drop j) 10 _) ?_
    rintro _ _ ⟨rfl, rfl⟩
    obtain ⟨q, hq⟩ : ∃ q, s.drop j = 45 :: 45 :: q := by
      rw [List.isPrefixOf_iff_prefix] at hp
      obtain ⟨t, ht⟩ := hp
      exact ⟨t, ht.symm⟩
    have hbq : betw s = betw ((s.drop j).dropWhile fun b => b != 10) := by
      rw [← hb, betw_line _ q (by rw [← hdd]; exact hq), hq]
      rfl
    unfold idxB
    cases hf : (s.drop j).findIdx? (fun b => b == 10) with
    | none =>
      simp [h0, h3]
      refine ⟨s.length, rfl, Nat.le_refl _, ?_⟩
      rw [hbq, idxB_none hf, betw_nil]; simp
    | some i =>
      obtain ⟨g1, g2⟩ := idxB_some hf
      have g3 : ¬ ((i : Int) < 0) := by omega
      have hi2 : 2 ≤ i := by
        rw [hq] at hf
        rw [List.findIdx?_cons, List.findIdx?_cons] at hf
        simp at hf
        omega
      simp only [List.length_drop] at g2
      have hw2 : IntKind.i64.wrap ((j : Int) + i) = ((j + i : Nat) : Int) := by rw [IntWalk.i64_in _ (by omega)]; omega
      simp [h0, h3, g3, hw2]
      refine ⟨s.length - (j + i), by omega, j + i, by omega, rfl, ?_, by omega⟩
      rw [hbq, g1, List.drop_drop]
end Go.Proofs.YthmnpnbcdoemfaaGreatDoor

/-
  strconv.ParseInt at a row of digits.
-/

namespace Go.Proofs.YthmnpnbcdoemfaaGreatDoor
open Go Go.Abs Go.Lex
set_option linter.unusedSimpArgs false
variable {G : Nat → Option AV}

theorem numVal_snoc (s : Bs) (b : UInt8) : numVal (s ++ [b]) = 10 * numVal s + (b.toNat - 48) := by simp [numVal]
theorem numVal_ge (a : Bs) : ∀ b : Bs, numVal a ≤ numVal (a ++ b) := by
  intro b
  induction b generalizing a with
  | nil => simp
  | cons c b ih =>
    have := ih (a ++ [c])
    rw [numVal_snoc, List.append_assoc] at this
    simp only [List.singleton_append] at this
    omega

theorem strCs_append' (a b : Bs) : strCs (a ++ b) = strCs a ++ strCs b := by simp [strCs]

theorem wrap_u64 (n : Int) (h0 : 0 ≤ n) (h1 : n < 18446744073709551616) : IntKind.u64.wrap n = n := by
  unfold IntKind.wrap
  simp only [IntKind.signed, IntKind.bits, Bool.false_and, Bool.false_eq_true, if_false]
  exact Int.emod_eq_of_lt h0 (by omega)
theorem wrap_u64' (n : Int) (h0 : 18446744073709551616 ≤ n) (h1 : n < 36893488147419103232) : IntKind.u64.wrap n = n - 18446744073709551616 := by
  unfold IntKind.wrap
  simp only [IntKind.signed, IntKind.bits, Bool.false_and, Bool.false_eq_true, if_false]
  omega
theorem wrap_u8 (n : Int) (h0 : 0 ≤ n) (h1 : n < 256) : IntKind.u8.wrap n = n := by
  unfold IntKind.wrap
  simp only [IntKind.signed, IntKind.bits, Bool.false_and, Bool.false_eq_true, if_false]
  exact Int.emod_eq_of_lt h0 (by omega)

@[simp] theorem concErr : Tryz.prog.concrete 302 = true := by kernel_rfl
@[simp] theorem concNum : Tryz.prog.concrete 305 = true := by kernel_rfl

/-- The answer of ParseUint. -/
def uintOf (s : Bs) : AV := if numVal s < 18446744073709551616 then .tuple [.int .u64 (numVal s), .niliface] else .tuple [.int .u64 18446744073709551615, .iface 302 (.int .i64 1)]

set_option maxRecDepth 100000 in
theorem parseUint (s : Bs) (hd : ∀ b ∈ s, isDigit b = true) (hs : s ≠ []) (hl : s.length ≤ 1000000) (H : AHeap) :
    Does Tryz.prog G 222 [.str s, .int .i64 10, .int .i64 64] H fun r H' => r = uintOf s ∧ H' = H := by
  refine Does.forgot (R := fun r H' => r = uintOf s ∧ ∀ j x, H.get j = some x → H'.get j = some x) ?_ ?_
  · refine Does.wf Tryz.call222 fun hw _ => ?_
    have old : ∀ j x, H.get j = some x → j ≠ H.next := fun j x hj => by have := next_lt hw hj; omega
    refine does_f Tryz.call222 Tryz.func222 rfl (by simp [Tryz.f222]) ?_
    have hs1 : s.isEmpty = false := by cases s <;> simp_all
    have e1 : IntKind.u64.wrap 64 = 64 := by decide
    have e2 : IntKind.u64.wrap (2 ^ min 64 IntKind.u64.bits) = 0 := by decide
    have e3 : IntKind.u64.wrap (-1) = 18446744073709551615 := by decide
    simp [hs1, e1, e2, e3]
    refine aws_loop (fun m T' H' => ∃ a b, s = a ++ b ∧ m = b.length ∧ numVal a < 18446744073709551616 ∧ T' 1 = .int .i64 10 ∧ T' 8 = .bool false ∧ T' 10 = .int .u64 1844674407370955162 ∧ T' 11 = .int .u64 18446744073709551615 ∧ T' 12 = .bool false ∧ T' 13 = .int .u64 (numVal a) ∧
      T' 99 = .sl H.next 0 1 s.length s.length true ∧ T' 100 = .int .i64 s.length ∧ T' 101 = .int .i64 a.length ∧ H' = H.push (.cells (strCs s))) s.length ⟨[], s, rfl, rfl, by decide, by simp [numVal, strCs]⟩ ?_
    rintro m T H' ⟨a, b, rfl, rfl, hv, h1, h8, h10, h11, h12, h13, h99, h100, h101, rfl⟩
    simp only [List.length_append] at hl h99 h100
    cases b with
    | nil =>
      simp [h1, h8, h10, h11, h12, h13, h99, h100, h101]
      refine ⟨?_, ?_⟩
      · simp [uintOf, hv]
      · intro j x hj
        simp [hj, old j x hj]
    | cons c b =>
      simp only [List.length_cons] at hl
      have hc := hd c (by simp)
      simp only [isDigit, Bool.and_eq_true, decide_eq_true_eq] at hc
      obtain ⟨hc1, hc2⟩ := hc
      obtain ⟨d, hdd⟩ : ∃ d, d = c.toNat - 48 := ⟨_, rfl⟩
      have hlt : (a.length : Int) < a.length + (b.length + 1) := by omega
      have hle : a.length ≤ a.length + (b.length + 1) := by omega
      have hw1 : IntKind.i64.wrap ((a.length : Int) + 1) = a.length + 1 := IntWalk.i64_in _ (by omega)
      have hdr : List.drop a.length (strCs (a ++ c :: b)) = .int .u8 c.toNat :: strCs b := by
        rw [strCs_append', List.drop_left' (by simp [strCs])]; rfl
      have hsl : (strCs (a ++ c :: b)).length = a.length + (b.length + 1) := by simp [strCs]
      have n1 : ¬ (c.toNat : Int) = 95 := by omega
      have n2 : (48 : Int) ≤ c.toNat := by omega
      have n3 : (c.toNat : Int) ≤ 57 := by omega
      have n4 : IntKind.u8.wrap ((c.toNat : Int) - 48) = d := by rw [wrap_u8 _ (by omega) (by omega)]; omega
      have n5 : IntKind.u8.wrap 10 = 10 := by decide
      have n6 : ¬ (10 : Int) ≤ d := by omega
      have n7 : IntKind.u64.wrap 10 = 10 := by decide
      have n8 : IntKind.u64.wrap (d : Int) = d := wrap_u64 _ (by omega) (by omega)
      have hn : numVal (a ++ [c]) = 10 * numVal a + d := by rw [numVal_snoc]; omega
      have hge := numVal_ge (a ++ [c]) b
      rw [List.append_assoc, List.singleton_append] at hge
      obtain ⟨v, hvv⟩ : ∃ v, v = numVal a := ⟨_, rfl⟩
      rw [← hvv] at hv h13 hn
      by_cases g1 : 1844674407370955162 ≤ v
      · have g1' : (1844674407370955162 : Int) ≤ v := by omega
        have hbig : ¬ numVal (a ++ c :: b) < 18446744073709551616 := by omega
        simp [h1, h8, h10, h11, h12, h13, h99, h100, h101, hlt, hle, hdr, hsl, n1, n2, n3, n4, n5, n6, n7, n8, g1']
        refine ⟨?_, ?_⟩
        · unfold uintOf; rw [if_neg hbig]
        · intro j x hj
          simp [hj, old j x hj]
      · have g1' : ¬ (1844674407370955162 : Int) ≤ v := by omega
        have m1 : IntKind.u64.wrap ((v : Int) * 10) = v * 10 := wrap_u64 _ (by omega) (by omega)
        by_cases g2 : 10 * v + d < 18446744073709551616
        · have m2 : IntKind.u64.wrap ((v : Int) * 10 + d) = v * 10 + d := wrap_u64 _ (by omega) (by omega)
          have m3 : ¬ ((v : Int) * 10 + d < v * 10) := by omega
          have m4 : ¬ ((18446744073709551615 : Int) < v * 10 + d) := by omega
          simp [h1, h8, h10, h11, h12, h13, h99, h100, h101, hlt, hle, hdr, hsl, n1, n2, n3, n4, n5, n6, n7, n8, g1', m1, m2, m3, m4, hw1]
          refine ⟨b.length, by omega, a ++ [c], b, by simp, rfl, by omega, ?_⟩
          simp [hn]
          omega
        · have m2 : IntKind.u64.wrap ((v : Int) * 10 + d) = v * 10 + d - 18446744073709551616 := wrap_u64' _ (by omega) (by omega)
          have m3 : ((v : Int) * 10 + d - 18446744073709551616 < v * 10) := by omega
          have hbig : ¬ numVal (a ++ c :: b) < 18446744073709551616 := by omega
          simp [h1, h8, h10, h11, h12, h13, h99, h100, h101, hlt, hle, hdr, hsl, n1, n2, n3, n4, n5, n6, n7, n8, g1', m1, m2, m3]
          refine ⟨?_, ?_⟩
          · unfold uintOf; rw [if_neg hbig]
          · intro j x hj
            simp [hj, old j x hj]
  · rintro hw ha r H1 ⟨rfl, h⟩
    refine ⟨h, ?_, rfl, rfl⟩
    unfold uintOf; split <;> rfl
end Go.Proofs.YthmnpnbcdoemfaaGreatDoor

/-
  strconv.ParseInt at a row of digits; a number's word.
-/




namespace Go.Proofs.YthmnpnbcdoemfaaGreatDoor
open Go Go.Abs Go.Lex
set_option linter.unusedSimpArgs false
variable {G : Nat → Option AV}

theorem wrap_i64 (n : Int) (h0 : 0 ≤ n) (h1 : n < 9223372036854775808) : IntKind.i64.wrap n = n := IntWalk.i64_in _ (by omega)

/-- The answer of ParseInt. -/
def intOf (s : Bs) : AV := if numVal s < 9223372036854775808 then .tuple [.int .i64 (numVal s), .niliface] else .tuple [.int .i64 9223372036854775807, .iface 302 (.int .i64 1)]

set_option maxRecDepth 100000 in
theorem parseInt (s : Bs) (hd : ∀ b ∈ s, isDigit b = true) (hs : s ≠ []) (hl : s.length ≤ 1000000) (H : AHeap) :
    Does Tryz.prog G 199 [.str s, .int .i64 10, .int .i64 64] H fun r H' => r = intOf s ∧ H' = H := by
  refine does_f Tryz.call199 Tryz.func199 rfl (by simp [Tryz.f199]) ?_
  cases s with
  | nil => exact absurd rfl hs
  | cons c q =>
    have hc := hd c (by simp)
    simp only [isDigit, Bool.and_eq_true, decide_eq_true_eq] at hc
    have n1 : ¬ (c.toNat : Int) = 43 := by omega
    have n2 : ¬ (c.toNat : Int) = 45 := by omega
    have m1 : (0 : Int) < q.length + 1 := by omega
    simp [n1, n2, m1]
    refine does_use (parseUint (c :: q) hd hs hl H) ?_
    rintro _ _ ⟨rfl, rfl⟩
    have e1 : IntKind.u64.wrap 63 = 63 := by decide
    have e2 : IntKind.u64.wrap (2 ^ min 63 IntKind.u64.bits) = 9223372036854775808 := by decide
    have e3 : IntKind.u64.wrap 9223372036854775807 = 9223372036854775807 := by decide
    have e4 : IntKind.i64.wrap 9223372036854775807 = 9223372036854775807 := by decide
    have e5 : IntKind.i64.wrap 63 = 63 := by decide
    have e6 : Tryz.t302.comparable = true := by kernel_rfl
    obtain ⟨v, hv⟩ : ∃ v, v = numVal (c :: q) := ⟨_, rfl⟩
    unfold uintOf intOf
    rw [← hv]
    by_cases g1 : v < 9223372036854775808
    · have g2 : v < 18446744073709551616 := by omega
      have g3 : ¬ (9223372036854775808 : Int) ≤ v := by omega
      have g4 : IntKind.i64.wrap (v : Int) = v := wrap_i64 _ (by omega) (by omega)
      rw [if_pos g2, if_pos g1]
      simp [e1, e2, e3, e4, e5, e6, g3, g4]
    · rw [if_neg g1]
      by_cases g2 : v < 18446744073709551616
      · have g3 : (9223372036854775808 : Int) ≤ v := by omega
        rw [if_pos g2]
        simp [e1, e2, e3, e4, e5, e6, g3]
      · rw [if_neg g2]
        simp [e1, e2, e3, e4, e5, e6]

theorem mixedOrders : Tryz.prog.follows .mixedOrders = true := by kernel_rfl

/-- The library's own error value is there. -/
def HasErr (G : Nat → Option AV) : Prop := ∃ t v, G 2 = some (.vptr [.iface t v])

set_option maxRecDepth 100000 in
theorem rangeError (s : Bs) (fn : Bs) (hl : s.length ≤ 1000000) (hG : HasErr G) (H : AHeap) : Does Tryz.prog G 224 [.str fn, .str s] H fun r H' => r = .ptr H.next 0 ∧ ∃ cs, H' = H.push (.cells cs) := by
  obtain ⟨et, ev, he⟩ := hG
  refine does_f Tryz.call224 Tryz.func224 rfl (by simp [Tryz.f224]) ?_
  simp
  refine aw_drawn [(3, 0), (3, 3)] ?_ ?_ ?_
  · exact mixedOrders
  · kernel_rfl
  intro es hes
  simp
  refine ⟨_, _, copy_does isCopy s (by omega) H, by simp, ?_⟩
  simp [he, rds, heapF]
  refine ⟨?_, _, rfl⟩
  subst hes
  exact ⟨by kernel_rfl, by kernel_rfl⟩

set_option maxRecDepth 100000 in
theorem toError (s : Bs) (fn : Bs) (hl : s.length ≤ 1000000) (hG : HasErr G) (H : AHeap) : Does Tryz.prog G 200 [.str fn, .str s, .int .i64 10, .int .i64 64, .iface 302 (.int .i64 1)] H fun r H' => r = .iface 305 (.ptr H.next 0) ∧ ∃ cs, H' = H.push (.cells cs) := by
  have e6 : Tryz.t302.comparable = true := by kernel_rfl
  refine does_f Tryz.call200 Tryz.func200 rfl (by simp [Tryz.f200]) ?_
  simp [e6]
  refine does_use (rangeError s fn hl hG H) ?_
  rintro _ _ ⟨rfl, cs, rfl⟩
  simp
  exact ⟨cs, rfl⟩

set_option maxRecDepth 100000 in
theorem parseInt' (s : Bs) (hd : ∀ b ∈ s, isDigit b = true) (hs : s ≠ []) (hl : s.length ≤ 1000000) (hG : HasErr G) (H : AHeap) :
    Does Tryz.prog G 162 [.str s, .int .i64 10, .int .i64 64] H fun r H' => (if numVal s < 9223372036854775808 then r = .tuple [.int .i64 (numVal s), .niliface] ∧ H' = H else r = .tuple [.int .i64 9223372036854775807, .iface 305 (.ptr H.next 0)] ∧ ∃ cs, H' = H.push (.cells cs)) := by
  refine does_f Tryz.call162 Tryz.func162 rfl (by simp [Tryz.f162]) ?_
  simp
  refine does_use (parseInt s hd hs hl H) ?_
  rintro _ _ ⟨rfl, rfl⟩
  unfold intOf
  by_cases h : numVal s < 9223372036854775808
  · rw [if_pos h]
    simp [h]
  · rw [if_neg h]
    simp [h]
    refine does_use (toError s _ hl hG _) ?_
    rintro _ _ ⟨rfl, cs, rfl⟩
    simp
    exact ⟨by omega, cs, rfl⟩

/-- What a row of digits gives. -/
def numN (s : Bs) : Int := if numVal s < 9223372036854775808 then numVal s else 9223372036854775807
def numOk (s : Bs) : Bool := decide (numVal s < 9223372036854775808) && (decide (s.length = 1) || decide (s.head? ≠ some 48))

set_option maxRecDepth 100000 in
theorem number_does (s : Bs) (hd : ∀ b ∈ s, isDigit b = true) (hs : s ≠ []) (hl : s.length ≤ 1000000) (hG : HasErr G) (H : AHeap) :
    Does Tryz.prog G 109 [.str s] H fun r H' => r = .tuple [.agg [.int .i64 3, .str s, .int .i64 (numN s), .int .i64 0], .bool (numOk s)] ∧ H' = H := by
  refine Does.forgot (R := fun r H' => r = .tuple [.agg [.int .i64 3, .str s, .int .i64 (numN s), .int .i64 0], .bool (numOk s)] ∧ ∀ j x, H.get j = some x → H'.get j = some x) ?_ ?_
  · refine Does.wf Tryz.call109 fun hw _ => ?_
    have old : ∀ j x, H.get j = some x → j ≠ H.next ∧ j ≠ H.next + 1 := fun j x hj => by have := next_lt hw hj; omega
    refine does_f Tryz.call109 Tryz.func109 rfl (by simp [Tryz.f109]) ?_
    simp
    refine does_use (parseInt' s hd hs hl hG _) ?_
    rintro r H1 hr
    obtain ⟨c, q, rfl⟩ : ∃ c q, s = c :: q := by
      cases s with
      | nil => exact absurd rfl hs
      | cons c q => exact ⟨c, q, rfl⟩
    have h0 : (0 : Int) < q.length + 1 := by omega
    have hg : (if numVal (c :: q) < 9223372036854775808 then r = .tuple [.int .i64 (numVal (c :: q)), .niliface] else ∃ i, r = .tuple [.int .i64 9223372036854775807, .iface 305 (.ptr i 0)]) ∧ H1.get H.next = some (.cells [.int .i64 0, .str [], .int .i64 0, .int .i64 0]) ∧ ∀ j x, H.get j = some x → H1.get j = some x := by
      by_cases h : numVal (c :: q) < 9223372036854775808
      · rw [if_pos h] at hr ⊢
        obtain ⟨rfl, rfl⟩ := hr
        exact ⟨rfl, by simp, fun j x hj => by simp [hj, old j x hj]⟩
      · rw [if_neg h] at hr ⊢
        obtain ⟨rfl, cs, rfl⟩ := hr
        exact ⟨⟨_, rfl⟩, by simp, fun j x hj => by simp [hj, old j x hj]⟩
    clear hr
    obtain ⟨hr, hf, hk⟩ := hg
    have fin : ∀ j x, H.get j = some x → ∀ cs, (H1.set H.next (.cells cs)).get j = some x := fun j x hj cs => by
      simp only [AHeap.get_set]
      rw [if_neg (old j x hj).1]; exact hk j x hj
    by_cases h : numVal (c :: q) < 9223372036854775808
    · rw [if_pos h] at hr
      subst hr
      simp
      refine aw_drawn [] mixedOrders (by kernel_rfl) ?_
      intro es hes
      by_cases hq : q = []
      · subst hq
        simp [hf, rds]
        refine ⟨?_, ?_, fun j x hj => ?_⟩
        · subst hes
          exact ⟨by kernel_rfl, by kernel_rfl⟩
        · simp [numN, numOk, h]
        · simp [old j x hj, hk j x hj]
      · have hq0 : q.length ≠ 0 := by simpa using hq
        have hq1 : ¬ ((q.length : Int) + 1 = 1) := by omega
        have hq2 : ((c.toNat : Int) = 48) ↔ c = 48 := by
          constructor
          · intro e
            have e1 : c.toNat = (48 : UInt8).toNat := by simpa using (by omega : c.toNat = 48)
            exact UInt8.toNat_inj.1 e1
          · rintro rfl; rfl
        simp [hf, rds, hq, hq1, h0]
        refine ⟨?_, ?_, fun j x hj => ?_⟩
        · subst hes
          exact ⟨by kernel_rfl, by kernel_rfl⟩
        · have hq3 : ((c.toNat : Int) != 48) = !decide (c = 48) := by
            rw [Bool.eq_iff_iff]
            simp [hq2]
          simp [numN, numOk, h, hq, hq3]
        · simp [old j x hj, hk j x hj]
    · rw [if_neg h] at hr
      obtain ⟨i, rfl⟩ := hr
      simp
      refine aw_drawn [] mixedOrders (by kernel_rfl) ?_
      intro es hes
      simp [hf, rds]
      refine ⟨?_, ?_, fun j x hj => ?_⟩
      · subst hes
        exact ⟨by kernel_rfl, by kernel_rfl⟩
      · simp [numN, numOk, h]
      · simp [old j x hj, hk j x hj]
  · rintro hw ha r H1 ⟨rfl, h⟩
    exact ⟨h, rfl, rfl, rfl⟩
end Go.Proofs.YthmnpnbcdoemfaaGreatDoor

/-
  Words: the word that a text begins with.
-/

namespace Go.Proofs.YthmnpnbcdoemfaaGreatDoor
open Go Go.Abs Go.Lex
set_option linter.unusedSimpArgs false
variable {G : Nat → Option AV}

def lettersL : Bs := [97,98,99,100,101,102,103,104,105,106,107,108,109,110,111,112,113,114,115,116,117,118,119,120,121,122]
def digitsL : Bs := [48,49,50,51,52,53,54,55,56,57]
def namesL : Bs := [97,98,99,100,101,102,103,104,105,106,107,108,109,110,111,112,113,114,115,116,117,118,119,120,121,122,48,49,50,51,52,53,54,55,56,57,95]

theorem byAll (p q : UInt8 → Bool) (h : ∀ n : Fin 256, p (UInt8.ofNat n.val) = q (UInt8.ofNat n.val)) (b : UInt8) : p b = q b := by
  have := h ⟨b.toNat, b.toNat_lt⟩
  simpa using this
theorem letters_eq (b : UInt8) : lettersL.contains b = isLetter b := byAll _ _ (by decide +kernel) b
theorem digits_eq (b : UInt8) : digitsL.contains b = isDigit b := byAll _ _ (by decide +kernel) b
theorem names_eq (b : UInt8) : namesL.contains b = isNamec b := byAll _ _ (by decide +kernel) b

theorem take_takeWhile (p : UInt8 → Bool) (s : Bs) : s.take (s.takeWhile p).length = s.takeWhile p := by
  have := List.takeWhile_prefix p (l := s)
  rw [List.prefix_iff_eq_take] at this
  exact this.symm

/-- A word's cells. -/
def wdCells (w : Wd) (i : Nat) : List AV := [.int .i64 w.kind, .str w.text, .int .i64 w.n, .int .i64 i]

def WordIs (s : Bs) (r : AV) : Prop := match wordS s with
  | some w => r = .tuple [.agg (wdCells w 0), .bool true]
  | none => ∃ k t n, r = .tuple [.agg [.int .i64 k, .str t, .int .i64 n, .int .i64 0], .bool false]

set_option maxRecDepth 100000 in
theorem word_does (c : UInt8) (q : Bs) (hl : (c :: q).length ≤ 1000000) (hG : HasErr G) (H : AHeap) : Does Tryz.prog G 53 [.str (c :: q)] H fun r H' => WordIs (c :: q) r ∧ H' = H := by
  refine Does.forgot (R := fun r H' => WordIs (c :: q) r ∧ ∀ j x, H.get j = some x → H'.get j = some x) ?_ ?_
  · refine Does.wf Tryz.call53 fun hw _ => ?_
    have old : ∀ j x, H.get j = some x → j ≠ H.next ∧ j ≠ H.next + 1 := fun j x hj => by have := next_lt hw hj; omega
    refine does_f Tryz.call53 Tryz.func53 rfl (by simp [Tryz.f53]) ?_
    have m1 : (1 : Int) ≤ q.length + 1 := by omega
    simp [m1]
    refine does_use (contains1 lettersL c _) ?_
    rintro _ _ ⟨rfl, rfl⟩
    rw [letters_eq]
    cases hL : isLetter c with
    | true =>
      simp
      refine does_use (while_does (c :: q) namesL isNamec names_eq (by decide) (by decide) (by decide) hl _) ?_
      rintro _ _ ⟨rfl, rfl⟩
      have ht := take_takeWhile isNamec (c :: q)
      have hle : ((c :: q).takeWhile isNamec).length ≤ (c :: q).length := (List.takeWhile_prefix isNamec).length_le
      obtain ⟨t, htt⟩ : ∃ t, t = (c :: q).takeWhile isNamec := ⟨_, rfl⟩
      rw [← htt] at ht hle ⊢
      simp only [List.length_cons] at hle
      have hle' : (t.length : Int) ≤ q.length + 1 := by omega
      simp [hle, hle', ht]
      refine does_use (kept_does t _) ?_
      rintro _ _ ⟨rfl, rfl⟩
      cases hk : kept t with
      | true =>
        simp
        refine ⟨?_, ?_⟩
        · simp [WordIs, wordS, hL, ← htt, hk, wdCells]
        · intro j x hj
          simp [hj, old j x hj]
      | false =>
        simp
        refine ⟨?_, ?_⟩
        · by_cases h24 : t.length ≤ 24
          · have : (t.length : Int) ≤ 24 := by omega
            simp [WordIs, wordS, hL, ← htt, hk, wdCells, h24, this]
          · have : ¬ (t.length : Int) ≤ 24 := by omega
            simp [WordIs, wordS, hL, ← htt, hk, wdCells, h24, this]
        · intro j x hj
          simp [hj, old j x hj]
    | false =>
      simp
      refine does_use (contains1 digitsL c _) ?_
      rintro _ _ ⟨rfl, rfl⟩
      rw [digits_eq]
      cases hD : isDigit c with
      | true =>
        simp
        refine does_use (while_does (c :: q) digitsL isDigit digits_eq (by decide) (by decide) (by decide) hl _) ?_
        rintro _ _ ⟨rfl, rfl⟩
        have ht := take_takeWhile isDigit (c :: q)
        have hle : ((c :: q).takeWhile isDigit).length ≤ (c :: q).length := (List.takeWhile_prefix isDigit).length_le
        have hall : ∀ b ∈ (c :: q).takeWhile isDigit, isDigit b = true := fun b hb => List.all_eq_true.1 (List.all_takeWhile) b hb
        have hcons : (c :: q).takeWhile isDigit = c :: q.takeWhile isDigit := by rw [List.takeWhile_cons, if_pos hD]
        obtain ⟨t, htt⟩ : ∃ t, t = (c :: q).takeWhile isDigit := ⟨_, rfl⟩
        rw [← htt] at ht hle hall hcons ⊢
        simp only [List.length_cons] at hle hl
        have hle' : (t.length : Int) ≤ q.length + 1 := by omega
        simp [hle, hle', ht]
        refine does_use (number_does t hall (by rw [hcons]; simp) (by omega) hG _) ?_
        rintro _ _ ⟨rfl, rfl⟩
        simp
        refine ⟨?_, ?_⟩
        · have hh : t.head? = some c := by rw [hcons]; rfl
          unfold WordIs wordS numOk numN
          simp only [hL, hD, ← htt, hh]
          by_cases g1 : numVal t < 9223372036854775808
          · by_cases g2 : t.length = 1 ∨ c ≠ 48
            · rcases g2 with g2 | g2 <;> simp [g1, g2, wdCells]
            · simp only [not_or] at g2
              simp [g1, g2.1, Decidable.not_not.1 g2.2]
          · simp [g1]
        · intro j x hj
          simp [hj, old j x hj]
      | false =>
        simp
        refine does_use (sign_does (c :: q) _) ?_
        rintro r _ ⟨hr, rfl⟩
        cases hs : signOf (c :: q) with
        | some t =>
          rw [hs] at hr
          simp only at hr
          subst hr
          simp
          refine ⟨?_, ?_⟩
          · simp [WordIs, wordS, hL, hD, hs, wdCells]
          · intro j x hj
            simp [hj, old j x hj]
        | none =>
          rw [hs] at hr
          simp only at hr
          subst hr
          simp
          refine ⟨?_, ?_⟩
          · simp [WordIs, wordS, hL, hD, hs, wdCells]
          · intro j x hj
            simp [hj, old j x hj]
  · rintro hw ha r H1 ⟨hr, h⟩
    refine ⟨h, ?_, hr, rfl⟩
    unfold WordIs at hr
    split at hr
    · subst hr; rfl
    · obtain ⟨k, t, n, rfl⟩ := hr; rfl
end Go.Proofs.YthmnpnbcdoemfaaGreatDoor

/-
  Words: a text cut.
-/


namespace Go.Proofs.YthmnpnbcdoemfaaGreatDoor
open Go Go.Abs Go.Lex
set_option linter.unusedSimpArgs false
variable {G : Nat → Option AV}

def flatW : List (Nat × Wd) → List AV
  | [] => []
  | (i, w) :: l => wdCells w i ++ flatW l
theorem flatW_append (a b : List (Nat × Wd)) : flatW (a ++ b) = flatW a ++ flatW b := by
  induction a with
  | nil => rfl
  | cons x a ih => obtain ⟨i, w⟩ := x; simp [flatW, ih]
@[simp] theorem wdCells_length (w : Wd) (i : Nat) : (wdCells w i).length = 4 := rfl
@[simp] theorem flatW_length (l : List (Nat × Wd)) : (flatW l).length = l.length * 4 := by
  induction l with
  | nil => rfl
  | cons x l ih => obtain ⟨i, w⟩ := x; simp [flatW, ih]; omega
theorem flatW_scalar (l : List (Nat × Wd)) : ∀ x ∈ flatW l, x.scalar = true := by
  induction l with
  | nil => simp [flatW]
  | cons y l ih =>
    obtain ⟨i, w⟩ := y
    intro x hx
    simp only [flatW, wdCells, List.cons_append, List.nil_append, List.mem_cons] at hx
    rcases hx with rfl | rfl | rfl | rfl | hx
    · rfl
    · rfl
    · rfl
    · rfl
    · exact ih x hx

/-- Cut's answer. -/
def cutAns (t : Bs) : AV := if 16384 < t.length then .tuple [.nilsl, .agg [.int .i64 2, .int .i64 t.length]] else match cutS t.length t with
  | .ok l => .tuple [.vsl (flatW l ++ [.int .i64 0, .str [], .int .i64 0, .int .i64 t.length]) (l.length + 1), .agg [.int .i64 0, .int .i64 0]]
  | .error e => .tuple [.nilsl, .agg [.int .i64 7, .int .i64 e]]

/-- The words so far: where they lie. -/
def Wrds (H : AHeap) (lo : Nat) (x : AV) (ws : List (Nat × Wd)) : Prop := (x = .nilsl ∧ ws = []) ∨ ∃ b, x = .sl b 0 4 ws.length ws.length true ∧ lo ≤ b ∧ H.get b = some (.cells (flatW ws))

def CutR (H : AHeap) (t : Bs) (r : AV) (H1 : AHeap) : Prop := (∀ j x, H.get j = some x → H1.get j = some x) ∧
  (if 16384 < t.length then r = .tuple [.nilsl, .agg [.int .i64 2, .int .i64 t.length]] else match cutS t.length t with
  | .ok l => ∃ b, H.next ≤ b ∧ r = .tuple [.sl b 0 4 (l.length + 1) (l.length + 1) true, .agg [.int .i64 0, .int .i64 0]] ∧ H1.get b = some (.cells (flatW l ++ [.int .i64 0, .str [], .int .i64 0, .int .i64 t.length]))
  | .error e => r = .tuple [.nilsl, .agg [.int .i64 7, .int .i64 e]])

theorem CutR.okEnd {H : AHeap} {t : Bs} {ws : List (Nat × Wd)} {H2 : AHeap} {b : Nat} (hL : ¬ 16384 < t.length) (hc : cutS t.length t = .ok ws) (hb : H.next ≤ b)
    (hg : H2.get b = some (.cells (flatW ws ++ [.int .i64 0, .str [], .int .i64 0, .int .i64 t.length]))) (hk : ∀ j x, H.get j = some x → H2.get j = some x) :
    CutR H t (.tuple [.sl b 0 4 (ws.length + 1) (ws.length + 1) true, .agg [.int .i64 0, .int .i64 0]]) H2 := by
  refine ⟨hk, ?_⟩
  rw [if_neg hL, hc]
  exact ⟨b, hb, rfl, hg⟩
theorem CutR.badEnd {H : AHeap} {t : Bs} {e : Nat} {H2 : AHeap} (hL : ¬ 16384 < t.length) (hc : cutS t.length t = .error e) (hk : ∀ j x, H.get j = some x → H2.get j = some x) :
    CutR H t (.tuple [.nilsl, .agg [.int .i64 7, .int .i64 e]]) H2 := by
  refine ⟨hk, ?_⟩
  rw [if_neg hL, hc]

set_option maxRecDepth 100000 in
theorem cut_live (t : Bs) (hG : HasErr G) (H : AHeap) (hbig : t.length < 9223372036854775808) : Does Tryz.prog G 20 [.str t] H (CutR H t) := by
  refine Does.wf Tryz.call20 fun hw _ => ?_
  have old : ∀ j x, H.get j = some x → j < H.next := fun j x hj => next_lt hw hj
  refine does_f Tryz.call20 Tryz.func20 rfl (by simp [Tryz.f20]) ?_
  by_cases hL : 16384 < t.length
  · have hL' : (16384 : Int) < t.length := by omega
    simp [hL']
    refine ⟨fun j x hj => ?_, by simp [hL]⟩
    have := old j x hj
    have h1 : j ≠ H.next := by omega
    simp [hj, h1]
  · have hL' : ¬ (16384 : Int) < t.length := by omega
    simp [hL']
    refine does_use (between_does t (by omega) _) ?_
    rintro _ _ ⟨⟨n, rfl, hn, hbn⟩, rfl⟩
    simp
    refine aws_loopw (fun m T' H' => ∃ (ws : List (Nat × Wd)) (rest : Bs) (n : Nat), cutS t.length t = aheadW ws (cutS t.length rest) ∧ n ≤ t.length ∧ t.drop n = betw rest ∧ m = t.length - n ∧ ws.length ≤ n ∧
      T' 0 = .str t ∧ T' 3 = .ptr H.next 0 ∧ T' 5 = .int .i64 n ∧ Wrds H' (H.next + 1) (T' 4) ws ∧ H'.get H.next = some (.cells [.int .i64 0, .int .i64 0]) ∧ (∀ j x, H.get j = some x → H'.get j = some x)) (t.length - n) ?_ ?_
    · refine ⟨[], t, n, ?_, hn, hbn, rfl, by simp, by simp, by simp, by simp, .inl ⟨by simp, rfl⟩, by simp, fun j x hj => ?_⟩
      · cases cutS t.length t <;> rfl
      · have := old j x hj
        have h1 : j ≠ H.next := by omega
        simp [hj, h1]
    rintro m T H1 ⟨ws, rest, n, hcut, hn, hbn, rfl, hws, h0, h3, h5, h4, hf, hkeep⟩ hw1 _
    have oldn : ∀ j x, H1.get j = some x → j < H1.next := fun j x hj => next_lt hw1 hj
    have hfn := oldn _ _ hf
    have hne : H.next ≠ H1.next := by omega
    have hne2 : H.next ≠ H1.next + 1 := by omega
    have hne3 : H.next ≠ H1.next + 1 + 1 := by omega
    have hgrow : ¬ (ws.length + 1 ≤ ws.length) := by omega
    have hws' : ws.length ≤ 16384 := by omega
    by_cases hend : n = t.length
    · subst hend
      have hnil : betw rest = [] := by rw [← hbn]; simp
      have hc : cutS t.length t = .ok ws := by rw [hcut, cutS_end hnil]; simp [aheadW]
      have hfin : ∀ j x, H.get j = some x → H1.get j = some x ∧ j ≠ H.next ∧ j ≠ H1.next ∧ j ≠ H1.next + 1 := fun j x hj => by
        have := old j x hj
        have := oldn j x (hkeep j x hj)
        exact ⟨hkeep j x hj, by omega, by omega, by omega⟩
      rcases h4 with ⟨h4, rfl⟩ | ⟨b, h4, hlo, hb⟩
      · simp [h0, h3, h4, h5, hf, hne, hne2, hne3]
        refine CutR.okEnd hL hc (by omega) (by simp [flatW, Ne.symm hne2]) fun j x hj => ?_
        obtain ⟨k1, k2, k3, k4⟩ := hfin j x hj
        simp [k1, k2, k3, k4]
      · have hbn' := oldn _ _ hb
        have hb1 : b ≠ H1.next := by omega
        have hb2 : H.next ≠ b := by omega
        have hl1 : (ws.length + 1) * 40 ≤ 140737488355328 := by omega
        have hl2 : ws.length ≤ 4611686018427387903 := by omega
        simp [h0, h3, h4, h5, hf, hne, hne2, hne3, hb, hb1, hb2, hgrow, hl1, hl2]
        have htk : List.take (ws.length * 4) (flatW ws) = flatW ws := by rw [List.take_of_length_le]; simp
        rw [htk]
        refine CutR.okEnd hL hc (by omega) (by simp [Ne.symm hne2]) fun j x hj => ?_
        obtain ⟨k1, k2, k3, k4⟩ := hfin j x hj
        have := old j x hj
        have k5 : j ≠ b := by omega
        simp [k1, k2, k3, k4, k5]
    · have hlt : (n : Int) < t.length := by omega
      have hn' : (n : Int) ≤ t.length := by omega
      obtain ⟨c, q, hcq⟩ : ∃ c q, t.drop n = c :: q := by
        cases h : t.drop n with
        | nil => rw [List.drop_eq_nil_iff] at h; omega
        | cons c q => exact ⟨c, q, rfl⟩
      have hlen : (c :: q).length = t.length - n := by rw [← hcq]; simp
      rw [hcq] at hbn
      have htk0 : List.take (t.length - n) (c :: q) = c :: q := by rw [List.take_of_length_le]; omega
      simp [h0, h3, h4, h5, hf, hlt, hn, hn', hcq, htk0]
      refine does_use (word_does c q (by omega) hG _) ?_
      rintro r H2 ⟨hr, e⟩
      subst e
      have hkeep2 : ∀ j x, H.get j = some x → H2.get j = some x ∧ j ≠ H.next ∧ j ≠ H2.next ∧ j ≠ H2.next + 1 ∧ j ≠ H2.next + 1 + 1 := fun j x hj => by
        have := old j x hj
        have := oldn j x (hkeep j x hj)
        exact ⟨hkeep j x hj, by omega, by omega, by omega, by omega⟩
      unfold WordIs at hr
      cases hwd : wordS (c :: q) with
      | none =>
        rw [hwd] at hr
        simp only at hr
        obtain ⟨k, tx, nn, rfl⟩ := hr
        have hc : cutS t.length t = .error n := by
          rw [hcut, cutS_bad hbn.symm hwd, hlen]
          simp only [aheadW]
          congr 1
          omega
        simp [h0, h3, h4, h5, hf, hne]
        refine CutR.badEnd hL hc fun j x hj => ?_
        obtain ⟨k1, k2, k3, k4, k5⟩ := hkeep2 j x hj
        simp [k1, k2, k3]
      | some w =>
        rw [hwd] at hr
        simp only at hr
        subst hr
        obtain ⟨hpre, htne⟩ := wordS_text hwd
        have hwl : w.text.length ≤ (c :: q).length := hpre.length_le
        have hwl0 : w.text.length ≠ 0 := by simpa using htne
        rw [hlen] at hwl
        have hw1 : IntKind.i64.wrap ((n : Int) + w.text.length) = ((n + w.text.length : Nat) : Int) := by rw [IntWalk.i64_in _ (by omega)]; omega
        have hn2 : ((n + w.text.length : Nat) : Int) ≤ t.length := by omega
        have hn3 : n + w.text.length ≤ t.length := by omega
        have hrest : t.drop (n + w.text.length) = (c :: q).drop w.text.length := by rw [← List.drop_drop, hcq]
        obtain ⟨n2, hn2'⟩ : ∃ n2, n2 = n + w.text.length := ⟨_, rfl⟩
        rw [← hn2'] at hw1 hn2 hn3 hrest
        have hcut2 : cutS t.length t = aheadW (ws ++ [(n, w)]) (cutS t.length (t.drop n2)) := by
          rw [hcut, cutS_word hbn.symm hwd, hrest, hlen]
          have e : t.length - (t.length - n) = n := by omega
          rw [e]
          cases cutS t.length ((c :: q).drop w.text.length) <;> simp [aheadW]
        rcases h4 with ⟨h4, rfl⟩ | ⟨b, h4, hlo, hb⟩
        · simp [h0, h3, h4, h5, hf, hne, hne2, hne3, wdCells, hw1, hn2, hn3]
          refine does_use (between_does (t.drop n2) (by simp; omega) _) ?_
          rintro _ _ ⟨⟨k, rfl, hk, hk2⟩, rfl⟩
          simp only [List.length_drop] at hk
          have hw2 : IntKind.i64.wrap ((n2 : Int) + k) = ((n2 + k : Nat) : Int) := by rw [IntWalk.i64_in _ (by omega)]; omega
          simp [h0, h3, h4, h5, hf, hne, hne2, hne3, hw2]
          refine ⟨t.length - (n2 + k), by omega, [(n, w)], t.drop n2, by simpa using hcut2, n2 + k, by omega, by rw [← List.drop_drop]; exact hk2, rfl, by simp; omega, by omega, .inr ⟨H2.next + 1 + 1, rfl, by omega, by simp [flatW, wdCells]⟩, fun j x hj => ?_⟩
          obtain ⟨k1, k2, k3, k4, k5⟩ := hkeep2 j x hj
          simp [k1, k3, k4, k5]
        · have hbn' := oldn _ _ hb
          have hb1 : b ≠ H2.next := by omega
          have hb2 : H.next ≠ b := by omega
          have hb3 : b ≠ H2.next + 1 := by omega
          have hl1 : (ws.length + 1) * 40 ≤ 140737488355328 := by omega
          have hl2 : ws.length ≤ 4611686018427387903 := by omega
          have hb4 : H2.next ≠ b := Ne.symm hb1
          have hb5 : H2.next ≠ H2.next + 1 + 1 := by omega
          have htk : List.take (ws.length * 4) (flatW ws) = flatW ws := by rw [List.take_of_length_le]; simp
          simp [h0, h3, h4, h5, hf, hne, hne2, hne3, wdCells, hw1, hn2, hn3, hb, hb1, hb2, hb3, hb4, hb5, hgrow, hl1, hl2, htk]
          refine does_use (between_does (t.drop n2) (by simp; omega) _) ?_
          rintro _ _ ⟨⟨k, rfl, hk, hk2⟩, rfl⟩
          simp only [List.length_drop] at hk
          have hw2 : IntKind.i64.wrap ((n2 : Int) + k) = ((n2 + k : Nat) : Int) := by rw [IntWalk.i64_in _ (by omega)]; omega
          simp [h0, h3, h4, h5, hf, hne, hne2, hne3, hw2]
          refine ⟨t.length - (n2 + k), by omega, ws ++ [(n, w)], t.drop n2, hcut2, n2 + k, by omega, by rw [← List.drop_drop]; exact hk2, rfl, by simp; omega, by omega, .inr ⟨H2.next + 1 + 1, by simp, by omega, by simp [flatW_append, flatW, wdCells]⟩, hb2, fun j x hj => ?_⟩
          obtain ⟨k1, k2, k3, k4, k5⟩ := hkeep2 j x hj
          have := old j x hj
          have k6 : j ≠ b := by omega
          simp [k1, k3, k4, k5, k6]

theorem flatW_lt (n : Nat) : ∀ l : List (Nat × Wd), AV.allLt n (flatW l) = true
  | [] => rfl
  | (i, w) :: l => by simp [flatW, wdCells, AV.allLt, AV.idLt, flatW_lt n l]
theorem allLt_app (n : Nat) (a b : List AV) : AV.allLt n (a ++ b) = (AV.allLt n a && AV.allLt n b) := AV.allLt_append a b
theorem frzs_flatW (i : Nat) (cs : List AV) : ∀ l : List (Nat × Wd), AV.frzs i cs (flatW l) = flatW l
  | [] => rfl
  | (j, w) :: l => by simp [flatW, wdCells, AV.frzs, AV.frz, frzs_flatW i cs l]

/-- Cut, its answer frozen. -/
theorem cut_does (t : Bs) (hG : HasErr G) (H : AHeap) (hbig : t.length < 9223372036854775808) : Does Tryz.prog G 20 [.str t] H fun r H' => r = cutAns t ∧ H' = H := by
  by_cases hL : 16384 < t.length
  · refine Does.forgot (cut_live t hG H hbig) ?_
    rintro hw ha r H1 ⟨hk, hr⟩
    rw [if_pos hL] at hr
    subst hr
    exact ⟨hk, rfl, by simp [cutAns, hL], rfl⟩
  · cases hc : cutS t.length t with
    | error e =>
      refine Does.forgot (cut_live t hG H hbig) ?_
      rintro hw ha r H1 ⟨hk, hr⟩
      rw [if_neg hL, hc] at hr
      simp only at hr
      subst hr
      exact ⟨hk, rfl, by simp [cutAns, hL, hc], rfl⟩
    | ok l =>
      refine Does.frozen (cut_live t hG H hbig) ?_
      rintro hw ha r H1 ⟨hk, hr⟩
      rw [if_neg hL, hc] at hr
      obtain ⟨b, hb, rfl, hg⟩ := hr
      refine ⟨b, _, hb, hg, hk, ?_, ?_, rfl⟩
      · simp [AV.frz, AV.frzs, AV.idLt, AV.allLt]
        rw [List.take_of_length_le (by simp; omega)]
        simp [allLt_app, flatW_lt, AV.allLt, AV.idLt]
      · simp [AV.frz, AV.frzs, cutAns, hL, hc]
        rw [List.take_of_length_le (by simp; omega)]
end Go.Proofs.YthmnpnbcdoemfaaGreatDoor

/-
  The reader of programs (syn): its state, word, ok, fail, is, one, take, want, part, name, deeper.
-/




namespace Go.Proofs.YthmnpnbcdoemfaaGreatDoor
open Go Go.Abs Go.Lex
set_option linter.unusedSimpArgs false
variable {G : Nat → Option AV}

mutual
def exCells : Syn.Ex → List AV
  | .mk op nm n p ks => [.str op, .str nm, .int .i64 n, .int .i64 p, if ks.isEmpty then .nilsl else .vsl (exsCells ks) ks.length]
def exsCells : List Syn.Ex → List AV
  | [] => []
  | e :: l => exCells e ++ exsCells l
end

def stCells (W : Syn.Ws) (s : Syn.St) : List AV := [.vsl (flatW W) W.length, .int .i64 s.i, .int .i64 s.names, .int .i64 s.parts, .int .i64 s.err, .int .i64 s.pos]

/-- The reader's cell. -/
def PAt (H : AHeap) (p : Nat) (W : Syn.Ws) (s : Syn.St) : Prop := H.get p = some (.cells (stCells W s))

/-- The words end with one of no kind. -/
structure WsOk (W : Syn.Ws) : Prop where
  small : W.length ≤ 20000
  last : ∀ i, i < W.length → (W.getD i (0, ⟨0, [], 0⟩)).2.kind ≠ 0 → i + 1 < W.length

theorem flatW_at : ∀ (L : List (Nat × Wd)) (i : Nat), i < L.length → (flatW L).drop (i * 4) = wdCells (L.getD i (0, ⟨0, [], 0⟩)).2 (L.getD i (0, ⟨0, [], 0⟩)).1 ++ flatW (L.drop (i + 1))
  | [], i, h => by simp at h
  | (a, b) :: L, 0, _ => by simp [flatW]
  | (a, b) :: L, i + 1, h => by
    have := flatW_at L i (by simpa using h)
    rw [Nat.succ_mul]
    simp only [flatW, List.drop_succ_cons, List.getD_cons_succ]
    rw [← this, Nat.add_comm (i * 4) 4, ← List.drop_drop]
    rw [List.drop_left' (by simp)]

theorem set_same {H : AHeap} {p : Nat} {x : AObj} (h : H.get p = some x) : H.set p x = H := by
  refine AHeap.ext' rfl fun i => ?_
  simp only [AHeap.get_set]
  split
  · rename_i e; subst e; exact h.symm
  · rfl

set_option maxRecDepth 100000 in
theorem p_ok {W : Syn.Ws} {s : Syn.St} {p : Nat} {H : AHeap} (h : PAt H p W s) : Does Tryz.prog G 21 [.ptr p 0] H fun r H' => r = .bool (decide (s.err = 0)) ∧ H' = H := by
  refine does_f Tryz.call21 Tryz.func21 rfl (by simp [Tryz.f21]) ?_
  unfold PAt stCells at h
  simp [h]

set_option maxRecDepth 100000 in
theorem p_word {W : Syn.Ws} {s : Syn.St} {p : Nat} {H : AHeap} (h : PAt H p W s) (hi : s.i < W.length) : Does Tryz.prog G 22 [.ptr p 0] H fun r H' => r = .agg (wdCells (Syn.at_ W s).2 (Syn.at_ W s).1) ∧ H' = H := by
  refine Does.forgot (R := fun r H' => r = .agg (wdCells (Syn.at_ W s).2 (Syn.at_ W s).1) ∧ ∀ j x, H.get j = some x → H'.get j = some x) ?_ ?_
  · refine Does.wf Tryz.call22 fun hw _ => ?_
    have old : ∀ j x, H.get j = some x → j ≠ H.next := fun j x hj => by have := next_lt hw hj; omega
    refine does_f Tryz.call22 Tryz.func22 rfl (by simp [Tryz.f22]) ?_
    have hp := old _ _ h
    unfold PAt stCells at h
    have hi' : (s.i : Int) < W.length := by omega
    have hd : (flatW W).drop (s.i * 4) = wdCells (Syn.at_ W s).2 (Syn.at_ W s).1 ++ flatW (W.drop (s.i + 1)) := flatW_at W s.i hi
    simp
    refine aw_drawn [(3, 0), (7, 0), (9, 0)] mixedOrders (by kernel_rfl) ?_
    intro es hes
    simp [h, hp, hi, hi', hd, rds, heapF, wdCells]
    refine ⟨?_, ?_⟩
    · subst hes
      exact ⟨by kernel_rfl, by kernel_rfl⟩
    intro j x hj
    simp [hj, old j x hj]
  · rintro hw ha r H1 ⟨rfl, h⟩
    exact ⟨h, by simp [AV.idLt, AV.allLt, wdCells], rfl, rfl⟩

theorem text_beq (a b : Bs) : (a == b) = decide (a = b) := by
  rw [Bool.eq_iff_iff]; simp

set_option maxRecDepth 100000 in
theorem p_fail {W : Syn.Ws} {s : Syn.St} {p : Nat} {H : AHeap} (h : PAt H p W s) (hi : s.i < W.length) (e : Nat) : Does Tryz.prog G 23 [.ptr p 0, .int .i64 e] H fun r H' => r = .tuple [] ∧ H' = H.set p (.cells (stCells W (Syn.fail W e s))) := by
  refine does_f Tryz.call23 Tryz.func23 rfl (by simp [Tryz.f23]) ?_
  simp
  refine does_use (p_ok h) ?_
  rintro _ H1 ⟨rfl, rfl⟩
  by_cases h0 : s.err = 0
  · simp [h0]
    refine does_use (p_word h hi) ?_
    rintro _ H2 ⟨rfl, rfl⟩
    unfold PAt stCells at h
    simp [h, h0, wdCells, Syn.fail, stCells]
  · simp [h0, Syn.fail]
    exact (set_same h).symm

set_option maxRecDepth 100000 in
theorem p_is {W : Syn.Ws} {s : Syn.St} {p : Nat} {H : AHeap} (h : PAt H p W s) (hi : s.i < W.length) (t : Bs) : Does Tryz.prog G 112 [.ptr p 0, .str t] H fun r H' => r = .bool (Syn.is W s t) ∧ H' = H := by
  refine Does.forgot (R := fun r H' => r = .bool (Syn.is W s t) ∧ ∀ j x, H.get j = some x → H'.get j = some x) ?_ ?_
  · refine Does.wf Tryz.call112 fun hw _ => ?_
    have old : ∀ j x, H.get j = some x → j ≠ H.next := fun j x hj => by have := next_lt hw hj; omega
    refine does_f Tryz.call112 Tryz.func112 rfl (by simp [Tryz.f112]) ?_
    simp
    refine does_use (p_word h hi) ?_
    rintro _ H1 ⟨rfl, rfl⟩
    have hp := old _ _ h
    simp [wdCells]
    refine does_use (p_ok (W := W) (s := s) (by unfold PAt; simp [hp]; exact h)) ?_
    rintro _ H2 ⟨rfl, rfl⟩
    by_cases h0 : s.err = 0
    · by_cases h2 : (Syn.at_ W s).2.kind = 2
      · have h2' : (((Syn.at_ W s).2.kind : Nat) : Int) = 2 := by omega
        simp [h0, h2, h2', Syn.is, Syn.kind, Syn.text]
        intro j x hj
        simp [hj, old j x hj]
      · have h2' : ¬ (((Syn.at_ W s).2.kind : Nat) : Int) = 2 := by omega
        by_cases h4 : (Syn.at_ W s).2.kind = 4
        · have h4' : (((Syn.at_ W s).2.kind : Nat) : Int) = 4 := by omega
          simp [h0, h2, h2', h4, h4', Syn.is, Syn.kind, Syn.text]
          intro j x hj
          simp [hj, old j x hj]
        · have h4' : ¬ (((Syn.at_ W s).2.kind : Nat) : Int) = 4 := by omega
          simp [h0, h2, h2', h4, h4', Syn.is, Syn.kind, Syn.text]
          intro j x hj
          simp [hj, old j x hj]
    · simp [h0, Syn.is]
      intro j x hj
      simp [hj, old j x hj]
  · rintro hw ha r H1 ⟨rfl, h⟩
    exact ⟨h, by simp [AV.idLt], rfl, rfl⟩
end Go.Proofs.YthmnpnbcdoemfaaGreatDoor

/-
  The reader of programs (syn): one, take, want, part, name, deeper.
-/

namespace Go.Proofs.YthmnpnbcdoemfaaGreatDoor
open Go Go.Abs Go.Lex
set_option linter.unusedSimpArgs false
variable {G : Nat → Option AV}

theorem wrap_eq (n : Int) : IntKind.i64.wrap n = Syn.wrap n := by rw [IntKind.wrap_i64]; rfl

theorem is_kind {W : Syn.Ws} {s : Syn.St} {t : Bs} (h : Syn.is W s t = true) : s.err = 0 ∧ (Syn.at_ W s).2.kind ≠ 0 := by
  simp only [Syn.is, Syn.kind, Bool.and_eq_true, Bool.or_eq_true, beq_iff_eq] at h
  exact ⟨h.1, by omega⟩
theorem one_kind {W : Syn.Ws} {s : Syn.St} {ts : List Bs} (h : Syn.one W s ts = true) : s.err = 0 ∧ (Syn.at_ W s).2.kind ≠ 0 := by
  simp only [Syn.one, List.any_eq_true] at h
  obtain ⟨t, _, h⟩ := h
  exact is_kind h

theorem ok_succ {W : Syn.Ws} (hW : WsOk W) {s : Syn.St} (hi : s.i < W.length) (hk : (Syn.at_ W s).2.kind ≠ 0) : s.i + 1 < W.length := hW.last s.i hi hk

theorem fail_i (W : Syn.Ws) (e : Nat) (s : Syn.St) : (Syn.fail W e s).i = s.i := by unfold Syn.fail; split <;> rfl
theorem want1_ok {W : Syn.Ws} (hW : WsOk W) {s : Syn.St} (hi : s.i < W.length) (t : Bs) : (Syn.want1 W s t).i < W.length := by
  unfold Syn.want1
  split
  · rename_i h; exact ok_succ hW hi (is_kind h).2
  · rw [fail_i]; exact hi
theorem want_ok {W : Syn.Ws} (hW : WsOk W) : ∀ (ts : List Bs) {s : Syn.St}, s.i < W.length → (Syn.want W s ts).i < W.length
  | [], _, h => h
  | t :: ts, _, h => want_ok hW ts (want1_ok hW h t)
theorem take_ok {W : Syn.Ws} (hW : WsOk W) {s : Syn.St} (hi : s.i < W.length) (t : Bs) : (Syn.take W s t).2.i < W.length := by
  unfold Syn.take
  split
  · rename_i h; exact ok_succ hW hi (is_kind h).2
  · exact hi
theorem part_ok {W : Syn.Ws} (hW : WsOk W) {s : Syn.St} (hi : s.i < W.length) (hk : (Syn.at_ W s).2.kind ≠ 0) : (Syn.part W s).i < W.length := by
  have h := ok_succ hW hi hk
  unfold Syn.part
  simp only
  by_cases hc : 300 < Syn.wrap (s.parts + 1)
  · simp only [hc, if_true]
    split <;> simp only [fail_i] <;> omega
  · simp only [hc, if_false]
    split <;> omega
theorem deeper_i (W : Syn.Ws) (b : Bool) (s : Syn.St) : (Syn.deeper W b s).2.i = s.i := by
  unfold Syn.deeper
  simp only
  split
  · exact fail_i W 2 s
  · rfl
theorem name_ok {W : Syn.Ws} (hW : WsOk W) {s : Syn.St} (hi : s.i < W.length) : (Syn.name W s).2.i < W.length := by
  unfold Syn.name
  simp only
  by_cases h1 : Syn.kind W s = 1
  · rw [if_pos h1]
    split
    · exact ok_succ hW hi (by unfold Syn.kind at h1; omega)
    · exact hi
  · rw [if_neg h1]
    split
    · rename_i h
      unfold Syn.fail at h
      split at h
      · simp at h
      · rename_i h2; exact absurd h h2
    · rw [fail_i]; exact hi

theorem PAt.set {H : AHeap} {p : Nat} {W : Syn.Ws} (s : Syn.St) : PAt (H.set p (.cells (stCells W s))) p W s := by unfold PAt; simp
theorem PAt.ext {H H' : AHeap} {p : Nat} {W : Syn.Ws} {s : Syn.St} (h : PAt H p W s) (hg : H'.get p = H.get p) : PAt H' p W s := hg.trans h

theorem stCells_lt (n : Nat) (W : Syn.Ws) (s : Syn.St) : AV.allLt n (stCells W s) = true := by
  simp [stCells, AV.allLt, AV.idLt, flatW_lt]
/-- What is there when all but the reader's cell is as it was. -/
theorem set_back {W : Syn.Ws} {s s' : Syn.St} {p : Nat} {H H1 : AHeap} (hw : H.Wf) (h : PAt H p W s) (h1 : H1.get p = some (.cells (stCells W s'))) (h2 : ∀ j x, j ≠ p → H.get j = some x → H1.get j = some x) :
    ∀ i x, (H.set p (.cells (stCells W s'))).get i = some x → H1.get i = some x ∧ i < H.next ∧ AV.allLt H.next x.cellsList = true := by
  intro i x hi
  simp only [AHeap.get_set] at hi
  split at hi
  · rename_i e; subst e
    simp only [Option.some.injEq] at hi; subst hi
    exact ⟨h1, next_lt hw h, stCells_lt _ _ _⟩
  · rename_i e
    exact ⟨h2 i x e hi, (hw i x hi).1, (hw i x hi).2⟩

set_option maxRecDepth 100000 in
theorem p_index {W : Syn.Ws} {s : Syn.St} {p : Nat} {H : AHeap} (h : PAt H p W s) (hi : s.i < W.length) (ts : List Bs) (j cap : Nat) (op : Bool) (hj : H.get j = some (.cells (ts.map .str))) (hl : ts.length ≤ 1000) :
    Does Tryz.prog G 91 [.sl j 0 1 ts.length cap op, .func (.func 112) [.ptr p 0] []] H fun r H' => (∃ n : Int, r = .int .i64 n ∧ (0 ≤ n ↔ Syn.one W s ts = true)) ∧ H' = H := by
  refine does_f Tryz.call91 Tryz.func91 rfl (by simp [Tryz.f91]) ?_
  simp
  refine aws_loop (fun m T' H' => ∃ a b, ts = a ++ b ∧ m = b.length ∧ (∀ y ∈ a, Syn.is W s y = false) ∧ T' 0 = .sl j 0 1 ts.length cap op ∧ T' 1 = .func (.func 112) [.ptr p 0] [] ∧ T' 7 = .int .i64 ts.length ∧ T' 8 = .int .i64 a.length ∧ H' = H) ts.length ⟨[], ts, rfl, rfl, by simp, by simp, by simp, by simp, by simp, rfl⟩ ?_
  rintro m T H1 ⟨a, b, hab, rfl, hn, t0, t1, t7, t8, rfl⟩
  have hlen : a.length + b.length = ts.length := by rw [← List.length_append, ← hab]
  cases b with
  | nil =>
    have ha : a.length = ts.length := by simpa using hlen
    have hone : Syn.one W s ts = false := by
      rw [Syn.one, hab, List.append_nil, List.any_eq_false]
      intro x hx; rw [hn x hx]; simp
    simp [t0, t1, t7, t8, ha, hone]
  | cons t b =>
    simp only [List.length_cons] at hlen
    have hlt : (a.length : Int) < ts.length := by omega
    have hlt2 : a.length < ts.length := by omega
    have hlt3 : a.length ≤ ts.length := by omega
    have hw1 : IntKind.i64.wrap ((a.length : Int) + 1) = a.length + 1 := IntWalk.i64_in _ (by omega)
    have hd : List.drop a.length (List.map AV.str ts) = .str t :: b.map .str := by
      rw [hab, List.map_append, List.drop_left' (by simp)]; rfl
    simp [t0, t1, t7, t8, hlt, hlt2, hlt3, hd, hj]
    refine does_use (p_is h hi t) ?_
    rintro _ H2 ⟨rfl, rfl⟩
    by_cases ht : Syn.is W s t = true
    · have hone : Syn.one W s ts = true := by
        rw [Syn.one, List.any_eq_true]
        exact ⟨t, by rw [hab]; simp, ht⟩
      simp [ht, hone]
    · have ht' : Syn.is W s t = false := by simpa using ht
      simp [ht', t0, t1, t7, t8, hw1]
      refine ⟨b.length, by omega, a ++ [t], b, by simp [hab], rfl, ?_, by simp⟩
      intro y hy
      simp at hy
      rcases hy with hy | rfl
      · exact hn y hy
      · exact ht'

set_option maxRecDepth 100000 in
theorem p_contains {W : Syn.Ws} {s : Syn.St} {p : Nat} {H : AHeap} (h : PAt H p W s) (hi : s.i < W.length) (ts : List Bs) (j cap : Nat) (op : Bool) (hj : H.get j = some (.cells (ts.map .str))) (hl : ts.length ≤ 1000) :
    Does Tryz.prog G 89 [.sl j 0 1 ts.length cap op, .func (.func 112) [.ptr p 0] []] H fun r H' => r = .bool (Syn.one W s ts) ∧ H' = H := by
  refine does_f Tryz.call89 Tryz.func89 rfl (by simp [Tryz.f89]) ?_
  simp
  refine does_use (p_index h hi ts j cap op hj hl) ?_
  rintro _ H1 ⟨⟨n, rfl, hn⟩, rfl⟩
  simp
  rw [Bool.eq_iff_iff, decide_eq_true_eq, hn]

set_option maxRecDepth 100000 in
theorem p_one {W : Syn.Ws} {s : Syn.St} {p : Nat} {H : AHeap} (h : PAt H p W s) (hi : s.i < W.length) (ts : List Bs) (j cap : Nat) (op : Bool) (hj : H.get j = some (.cells (ts.map .str))) (hl : ts.length ≤ 1000) :
    Does Tryz.prog G 201 [.ptr p 0, .sl j 0 1 ts.length cap op] H fun r H' => r = .bool (Syn.one W s ts) ∧ H' = H := by
  refine does_f Tryz.call201 Tryz.func201 rfl (by simp [Tryz.f201]) ?_
  simp
  refine does_use (p_contains h hi ts j cap op hj hl) ?_
  rintro _ H1 ⟨rfl, rfl⟩
  simp

set_option maxRecDepth 100000 in
theorem p_take {W : Syn.Ws} (hW : WsOk W) {s : Syn.St} {p : Nat} {H : AHeap} (h : PAt H p W s) (hi : s.i < W.length) (t : Bs) : Does Tryz.prog G 57 [.ptr p 0, .str t] H fun r H' => r = .bool (Syn.take W s t).1 ∧ H' = H.set p (.cells (stCells W (Syn.take W s t).2)) := by
  refine does_f Tryz.call57 Tryz.func57 rfl (by simp [Tryz.f57]) ?_
  simp
  refine does_use (p_is h hi t) ?_
  rintro _ H1 ⟨rfl, rfl⟩
  have hsm := hW.small
  have hw1 : IntKind.i64.wrap ((s.i : Int) + 1) = s.i + 1 := IntWalk.i64_in _ (by omega)
  by_cases ht : Syn.is W s t = true
  · unfold PAt stCells at h
    simp [ht, Syn.take, h, hw1, stCells]
  · have ht' : Syn.is W s t = false := by simpa using ht
    simp [ht', Syn.take]
    exact (set_same h).symm

set_option maxRecDepth 100000 in
theorem p_want {W : Syn.Ws} (hW : WsOk W) {s : Syn.St} {p : Nat} {H : AHeap} (h : PAt H p W s) (hi : s.i < W.length) (ts : List Bs) (j cap : Nat) (op : Bool) (hj : H.get j = some (.cells (ts.map .str))) (hjp : j ≠ p) (hl : ts.length ≤ 1000) :
    Does Tryz.prog G 54 [.ptr p 0, .sl j 0 1 ts.length cap op] H fun r H' => r = .tuple [] ∧ H' = H.set p (.cells (stCells W (Syn.want W s ts))) := by
  refine does_f Tryz.call54 Tryz.func54 rfl (by simp [Tryz.f54]) ?_
  simp
  refine aws_loop (fun m T' H' => ∃ a b, ts = a ++ b ∧ m = b.length ∧ T' 0 = .ptr p 0 ∧ T' 6 = .sl j 0 1 ts.length cap op ∧ T' 7 = .int .i64 ts.length ∧ T' 8 = .int .i64 a.length ∧ H' = H.set p (.cells (stCells W (Syn.want W s a)))) ts.length ⟨[], ts, rfl, rfl, by simp, by simp, by simp, by simp, by simp [Syn.want]; exact (set_same h).symm⟩ ?_
  rintro m T H1 ⟨a, b, hab, rfl, t0, t6, t7, t8, rfl⟩
  have hlen : a.length + b.length = ts.length := by rw [← List.length_append, ← hab]
  cases b with
  | nil =>
    have ha : a.length = ts.length := by simpa using hlen
    rw [List.append_nil] at hab
    subst hab
    simp [t0, t6, t7, t8]
  | cons t b =>
    simp only [List.length_cons] at hlen
    have hlt : (a.length : Int) < ts.length := by omega
    have hlt2 : a.length < ts.length := by omega
    have hlt3 : a.length ≤ ts.length := by omega
    have hw1 : IntKind.i64.wrap ((a.length : Int) + 1) = a.length + 1 := IntWalk.i64_in _ (by omega)
    have hd : List.drop a.length (List.map AV.str ts) = .str t :: b.map .str := by
      rw [hab, List.map_append, List.drop_left' (by simp)]; rfl
    have hia := want_ok hW a hi
    have hst : Syn.want W s (a ++ [t]) = Syn.want1 W (Syn.want W s a) t := by simp [Syn.want]
    simp [t0, t6, t7, t8, hlt, hlt2, hlt3, hd, hj, hjp]
    refine does_use (p_take hW (PAt.set _) hia t) ?_
    rintro _ H2 ⟨rfl, rfl⟩
    simp
    by_cases ht : Syn.is W (Syn.want W s a) t = true
    · simp [ht, Syn.take, t0, t6, t7, t8, hw1]
      exact ⟨b.length, by omega, a ++ [t], b, by simp [hab], rfl, by simp, by rw [hst, Syn.want1, if_pos ht]⟩
    · have ht' : Syn.is W (Syn.want W s a) t = false := by simpa using ht
      simp [ht', Syn.take, t0, t6, t7, t8, hw1]
      refine does_use (p_fail (PAt.set _) hia 7) ?_
      rintro _ H3 ⟨rfl, rfl⟩
      simp [t0, t6, t7, t8, hw1]
      exact ⟨b.length, by omega, a ++ [t], b, by simp [hab], rfl, by simp, by rw [hst, Syn.want1, if_neg ht]⟩

set_option maxRecDepth 100000 in
theorem p_deeper {W : Syn.Ws} {s : Syn.St} {p : Nat} {H : AHeap} (h : PAt H p W s) (hi : s.i < W.length) (d : Int) : Does Tryz.prog G 165 [.ptr p 0, .int .i64 d] H fun r H' => r = .bool (Syn.deeper W (decide (d = 30)) s).1 ∧ H' = H.set p (.cells (stCells W (Syn.deeper W (decide (d = 30)) s).2)) := by
  refine does_f Tryz.call165 Tryz.func165 rfl (by simp [Tryz.f165]) ?_
  by_cases hd : d = 30
  · simp [hd]
    refine does_use (p_fail h hi 2) ?_
    rintro _ H1 ⟨rfl, rfl⟩
    simp
    refine does_use (p_ok (PAt.set _)) ?_
    rintro _ H2 ⟨rfl, rfl⟩
    subst hd
    simp [Syn.deeper]
  · simp [hd]
    refine does_use (p_ok h) ?_
    rintro _ H2 ⟨rfl, rfl⟩
    simp [Syn.deeper, hd]
    exact (set_same h).symm

set_option maxRecDepth 100000 in
theorem p_part {W : Syn.Ws} (hW : WsOk W) {s : Syn.St} {p : Nat} {H : AHeap} (h : PAt H p W s) (hi : s.i < W.length) : Does Tryz.prog G 164 [.ptr p 0] H fun r H' => r = .agg (wdCells (Syn.at_ W s).2 (Syn.at_ W s).1) ∧ H' = H.set p (.cells (stCells W (Syn.part W s))) := by
  refine Does.deep (R := fun r H' => r = .agg (wdCells (Syn.at_ W s).2 (Syn.at_ W s).1) ∧ H'.get p = some (.cells (stCells W (Syn.part W s))) ∧ ∀ j x, j ≠ p → H.get j = some x → H'.get j = some x) ?_ ?_
  · refine Does.wf Tryz.call164 fun hw _ => ?_
    have old : ∀ j x, H.get j = some x → j ≠ H.next ∧ j ≠ H.next + 1 := fun j x hj => by have := next_lt hw hj; omega
    refine does_f Tryz.call164 Tryz.func164 rfl (by simp [Tryz.f164]) ?_
    obtain ⟨hp1, hp2⟩ := old _ _ h
    have hsm := hW.small
    have hw1 : IntKind.i64.wrap ((s.i : Int) + 1) = s.i + 1 := IntWalk.i64_in _ (by omega)
    have hw2 : IntKind.i64.wrap (s.parts + 1) = Syn.wrap (s.parts + 1) := wrap_eq _
    simp
    refine does_use (p_word (W := W) (s := s) (by unfold PAt; simp [hp1]; exact h) hi) ?_
    rintro _ H1 ⟨rfl, rfl⟩
    have h' := h
    unfold PAt stCells at h'
    by_cases hc : 300 < Syn.wrap (s.parts + 1)
    · simp [wdCells, h', hp1, hp2, hw2, hc]
      refine does_use (p_fail (W := W) (s := { s with parts := Syn.wrap (s.parts + 1) }) (by unfold PAt stCells; simp) hi 2) ?_
      rintro _ H2 ⟨rfl, rfl⟩
      simp
      refine does_use (p_ok (PAt.set _)) ?_
      rintro _ H3 ⟨rfl, rfl⟩
      by_cases h0 : (Syn.fail W 2 { s with parts := Syn.wrap (s.parts + 1) }).err = 0
      · exact absurd h0 (by unfold Syn.fail; split <;> simp_all)
      · simp [h0, Syn.part, hc, hp1, hp2, Ne.symm hp1, Ne.symm hp2]
        refine ⟨rfl, fun j x hjp hj => ?_⟩
        obtain ⟨k1, k2⟩ := old j x hj
        simp [hj, hjp, k1, k2]
    · simp [wdCells, h', hp1, hp2, hw2, hc]
      refine does_use (p_ok (W := W) (s := { s with parts := Syn.wrap (s.parts + 1) }) (by unfold PAt stCells; simp)) ?_
      rintro _ H3 ⟨rfl, rfl⟩
      by_cases h0 : s.err = 0
      · simp [h0, Syn.part, hc, hp1, hp2, Ne.symm hp1, Ne.symm hp2, hw1, stCells]
        refine ⟨rfl, fun j x hjp hj => ?_⟩
        obtain ⟨k1, k2⟩ := old j x hj
        simp [hj, hjp, k1, k2]
      · simp [h0, Syn.part, hc, hp1, hp2, Ne.symm hp1, Ne.symm hp2, hw1, stCells]
        refine ⟨rfl, fun j x hjp hj => ?_⟩
        obtain ⟨k1, k2⟩ := old j x hj
        simp [hj, hjp, k1, k2]
  · rintro hw ha r H1 ⟨rfl, h1, h2⟩
    exact ⟨_, H.set p (.cells (stCells W (Syn.part W s))), .old (by simp [AV.idLt, AV.allLt, wdCells]), rfl, set_back hw h h1 h2, rfl, rfl⟩
end Go.Proofs.YthmnpnbcdoemfaaGreatDoor

/-
  The reader of programs (syn): name; operators between (right, row, cmp).
-/

namespace Go.Proofs.YthmnpnbcdoemfaaGreatDoor
open Go Go.Abs Go.Lex
set_option linter.unusedSimpArgs false
variable {G : Nat → Option AV}

def kidsV (ks : List Syn.Ex) : AV := if ks.isEmpty then .nilsl else .vsl (exsCells ks) ks.length
@[simp] theorem kidsV_scalar (ks : List Syn.Ex) : (kidsV ks).scalar = true := by unfold kidsV; split <;> rfl
@[simp] theorem kidsV_cells (ks : List Syn.Ex) : (kidsV ks).cells = [kidsV ks] := by unfold kidsV; split <;> rfl
theorem exCells_mk (op nm : Bs) (n p : Nat) (ks : List Syn.Ex) : exCells (.mk op nm n p ks) = [.str op, .str nm, .int .i64 n, .int .i64 p, kidsV ks] := by
  simp only [exCells, kidsV]
mutual
theorem exCells_lt (m : Nat) : ∀ e : Syn.Ex, AV.allLt m (exCells e) = true
  | .mk op nm n p ks => by
    have h := exsCells_lt m ks
    rw [exCells_mk]
    unfold kidsV
    split <;> simp [AV.allLt, AV.idLt, h]
theorem exsCells_lt (m : Nat) : ∀ l : List Syn.Ex, AV.allLt m (exsCells l) = true
  | [] => rfl
  | e :: l => by rw [exsCells, allLt_app, exCells_lt m e, exsCells_lt m l]; rfl
end
theorem kidsV_lt (m : Nat) (ks : List Syn.Ex) : (kidsV ks).idLt m = true := by
  unfold kidsV
  split
  · rfl
  · simpa [AV.idLt] using exsCells_lt m ks

/-- What a reading function comes to. -/
def PRes (H : AHeap) (p : Nat) (W : Syn.Ws) (x : Syn.Ex × Syn.St) (r : AV) (H' : AHeap) : Prop :=
  ResV H'.get H.next r (.agg (exCells x.1)) ∧ H'.get p = some (.cells (stCells W x.2)) ∧ ∀ j y, j ≠ p → H.get j = some y → H'.get j = some y

theorem PRes.deep {f : FuncId} {args : List AV} {H : AHeap} {p : Nat} {W : Syn.Ws} {s : Syn.St} {x : Syn.Ex × Syn.St} (h : PAt H p W s) (hd : Does Tryz.prog G f args H (PRes H p W x)) : Does Tryz.prog G f args H fun r H' => r = .agg (exCells x.1) ∧ H' = H.set p (.cells (stCells W x.2)) := by
  refine Does.deep hd ?_
  rintro hw ha r H1 ⟨h1, h2, h3⟩
  exact ⟨_, H.set p (.cells (stCells W x.2)), h1, rfl, set_back hw h h2 h3, rfl, rfl⟩

/-- A function that reads an expression. -/
def Reads (G : Nat → Option AV) (W : Syn.Ws) (p : Nat) (f : FuncId) (d : Int) (g : Syn.P) : Prop :=
  ∀ (H : AHeap) (s : Syn.St), PAt H p W s → s.i < W.length → Does Tryz.prog G f [.ptr p 0, .int .i64 d] H fun r H' => r = .agg (exCells (g s).1) ∧ H' = H.set p (.cells (stCells W (g s).2))
def RightC (G : Nat → Option AV) (W : Syn.Ws) (p : Nat) (nf : FuncId) (t : Bs) (d : Int) (g : Syn.P) : Prop :=
  ∀ (H : AHeap) (s : Syn.St), PAt H p W s → s.i < W.length → Does Tryz.prog G 114 [.ptr p 0, .int .i64 d, .func (.func nf) [.ptr p 0] [], .str t] H fun r H' => r = .agg (exCells (g s).1) ∧ H' = H.set p (.cells (stCells W (g s).2))

/-- What is left to read. -/
def mu (W : Syn.Ws) (s : Syn.St) : Nat := if s.err = 0 then W.length - s.i else 0
structure Keeps (W : Syn.Ws) (g : Syn.P) : Prop where
  i : ∀ s, s.i < W.length → (g s).2.i < W.length
  mu : ∀ s, s.i < W.length → mu W (g s).2 ≤ mu W s

set_option maxRecDepth 100000 in
theorem p_name {W : Syn.Ws} (hW : WsOk W) {s : Syn.St} {p : Nat} {H : AHeap} (h : PAt H p W s) (hi : s.i < W.length) : Does Tryz.prog G 55 [.ptr p 0] H fun r H' => r = .str (Syn.name W s).1 ∧ H' = H.set p (.cells (stCells W (Syn.name W s).2)) := by
  refine Does.deep (R := fun r H' => r = .str (Syn.name W s).1 ∧ H'.get p = some (.cells (stCells W (Syn.name W s).2)) ∧ ∀ j x, j ≠ p → H.get j = some x → H'.get j = some x) ?_ ?_
  · refine Does.wf Tryz.call55 fun hw _ => ?_
    have old : ∀ j x, H.get j = some x → j ≠ H.next := fun j x hj => by have := next_lt hw hj; omega
    refine does_f Tryz.call55 Tryz.func55 rfl (by simp [Tryz.f55]) ?_
    have hp1 := old _ _ h
    have hsm := hW.small
    have hw1 : IntKind.i64.wrap ((s.i : Int) + 1) = s.i + 1 := IntWalk.i64_in _ (by omega)
    simp
    refine does_use (p_word h hi) ?_
    rintro _ H1 ⟨rfl, rfl⟩
    by_cases hk : (Syn.at_ W s).2.kind = 1
    · have hk' : (((Syn.at_ W s).2.kind : Nat) : Int) = 1 := by omega
      simp [wdCells, hk']
      refine does_use (p_ok (W := W) (s := s) (by unfold PAt; simp [hp1]; exact h)) ?_
      rintro _ H2 ⟨rfl, rfl⟩
      by_cases h0 : s.err = 0
      · have h' := h
        unfold PAt stCells at h'
        simp [h0, h', hp1, Ne.symm hp1, hw1, Syn.name, Syn.kind, hk, Syn.text, stCells]
        intro j x hjp hj
        simp [hj, hjp, old j x hj]
      · simp [h0, hp1, Syn.name, Syn.kind, hk]
        refine ⟨h, fun j x hjp hj => ?_⟩
        simp [hj, hjp, old j x hj]
    · have hk' : ¬ (((Syn.at_ W s).2.kind : Nat) : Int) = 1 := by omega
      have hk2 : ((((Syn.at_ W s).2.kind : Nat) : Int) != 1) = true := by simp [hk']
      simp [wdCells, hk2]
      refine does_use (p_fail (W := W) (s := s) (by unfold PAt; simp [hp1]; exact h) hi 7) ?_
      rintro _ H2 ⟨rfl, rfl⟩
      simp
      refine does_use (p_ok (PAt.set _)) ?_
      rintro _ H3 ⟨rfl, rfl⟩
      have h0 : ¬ (Syn.fail W 7 s).err = 0 := by unfold Syn.fail; split <;> simp_all
      simp [h0, hp1, Syn.name, Syn.kind, hk]
      intro j x hjp hj
      simp [hj, hjp, old j x hj]
  · rintro hw ha r H1 ⟨rfl, h1, h2⟩
    exact ⟨_, H.set p (.cells (stCells W (Syn.name W s).2)), .old rfl, rfl, set_back hw h h1 h2, rfl, rfl⟩

set_option maxHeartbeats 2000000 in
set_option maxRecDepth 100000 in
theorem p_right {W : Syn.Ws} (hW : WsOk W) {p : Nat} {nf : FuncId} {t : Bs} {d : Int} {next below : Syn.P} (hd1 : 1 ≤ d) (hd2 : d ≤ 30) (hn : Reads G W p nf d next) (hk : Keeps W next) (hb : d ≠ 30 → RightC G W p nf t (d + 1) below) :
    RightC G W p nf t d (Syn.right W next t (decide (d = 30)) below) := by
  intro H s h hi
  refine PRes.deep h ?_
  refine Does.wf Tryz.call114 fun hw _ => ?_
  have old : ∀ j x, H.get j = some x → j ≠ H.next ∧ j ≠ H.next + 1 ∧ j ≠ H.next + 1 + 1 := fun j x hj => by have := next_lt hw hj; omega
  refine does_f Tryz.call114 Tryz.func114 rfl (by simp [Tryz.f114]) ?_
  obtain ⟨hp1, hp2, hp3⟩ := old _ _ h
  simp
  refine does_use (hn _ s (by unfold PAt; simp [hp1]; exact h) hi) ?_
  rintro _ H1 ⟨rfl, rfl⟩
  have hi1 := hk.i s hi
  rcases hx : next s with ⟨⟨op, nm, n, po, ks⟩, s1⟩
  rw [hx] at hi1
  simp only at hi1
  simp [exCells_mk, hp1, Ne.symm hp1]
  refine does_use (p_is (W := W) (s := s1) (by unfold PAt; simp [hp2]) hi1 t) ?_
  rintro _ H2 ⟨rfl, rfl⟩
  by_cases ht : Syn.is W s1 t = true
  · simp [ht]
    have hk1 := is_kind ht
    refine does_use (p_part hW (W := W) (s := s1) (by unfold PAt; simp [hp2]) hi1) ?_
    rintro _ H2 ⟨rfl, rfl⟩
    have hi2 := part_ok hW hi1 hk1.2
    simp [wdCells]
    refine does_use (p_deeper (W := W) (s := Syn.part W s1) (by unfold PAt; simp [hp3]) hi2 d) ?_
    rintro _ H3 ⟨rfl, rfl⟩
    rcases hdp : Syn.deeper W (decide (d = 30)) (Syn.part W s1) with ⟨b, s2⟩
    have hi3 : s2.i < W.length := by
      have := deeper_i W (decide (d = 30)) (Syn.part W s1)
      rw [hdp] at this
      simp only at this
      omega
    have n0 : H.next ≠ H.next + 1 + 1 := by omega
    cases b with
    | false =>
      simp [hp1, hp2, hp3, Ne.symm hp1, Ne.symm hp2, Ne.symm hp3, n0]
      refine ⟨?_, ?_, ?_⟩
      · simp [Syn.right, hx, ht, hdp]
        rw [exCells_mk]
        exact .old (by simp [AV.idLt, AV.allLt, kidsV_lt])
      · simp [Syn.right, hx, ht, hdp, hp1, hp2, hp3]
      · intro j x hjp hj
        obtain ⟨k1, k2, k3⟩ := old j x hj
        simp [hj, hjp, k1, k2, k3]
    | true =>
      have hd30 : d ≠ 30 := by
        intro e
        subst e
        simp only [decide_true, Syn.deeper, if_true, Prod.mk.injEq] at hdp
        have : ¬ (Syn.fail W 2 (Syn.part W s1)).err = 0 := by unfold Syn.fail; split <;> simp_all
        simp [this] at hdp
      have hw1 : IntKind.i64.wrap (d + 1) = d + 1 := IntWalk.i64_in _ (by omega)
      have hB := hb hd30 
      simp [hp1, hp2, hp3, Ne.symm hp1, Ne.symm hp2, Ne.symm hp3, n0]
      refine aw_drawn [(2, 0), (2, 10), (3, 0), (3, 10)] mixedOrders (by kernel_rfl) ?_
      intro es hes
      simp [hp1, hp2, hp3, Ne.symm hp1, Ne.symm hp2, Ne.symm hp3, n0, hw1]
      refine ⟨_, _, hB _ s2 (by unfold PAt; simp) hi3, by simp, ?_⟩
      rcases hy : below s2 with ⟨⟨op2, nm2, n2, po2, ks2⟩, s4⟩
      have m1 : H.next ≠ H.next + 1 + 1 + 1 := by omega
      have m2 : H.next + 1 + 1 + 1 ≠ H.next := by omega
      have m3 : H.next + 1 + 1 + 1 ≠ H.next + 1 := by omega
      have hp4 : p ≠ H.next + 1 + 1 + 1 := by have := next_lt hw h; omega
      simp [exCells_mk, hp1, hp2, hp3, hp4, Ne.symm hp1, Ne.symm hp2, Ne.symm hp3, Ne.symm hp4, n0, m1, m2, m3, rds, heapF]
      refine ⟨?_, ?_, ?_, ?_⟩
      · subst hes
        exact ⟨by kernel_rfl, by kernel_rfl⟩
      · simp [Syn.right, hx, ht, hdp, hy]
        rw [exCells_mk]
        refine .agg (.cons (.old rfl) (.cons (.old rfl) (.cons (.old rfl) (.cons (.old rfl) (.cons ?_ .nil)))))
        have hkk : kidsV [Syn.Ex.mk op nm n po ks, Syn.Ex.mk op2 nm2 n2 po2 ks2] = .vsl (exsCells [Syn.Ex.mk op nm n po ks, Syn.Ex.mk op2 nm2 n2 po2 ks2]) 2 := rfl
        rw [hkk]
        refine .sl (cs := exsCells [Syn.Ex.mk op nm n po ks, Syn.Ex.mk op2 nm2 n2 po2 ks2]) (by omega) ?_ ?_
        · simp [exsCells, exCells_mk, hp4, Ne.symm hp4, m1, m2, m3]
        · simp only [exsCells, exCells_mk]
          exact .old (by simp [AV.allLt, AV.idLt, kidsV_lt])
      · simp [Syn.right, hx, ht, hdp, hy, hp1, hp2, hp3, hp4]
      · intro j x hjp hj
        obtain ⟨k1, k2, k3⟩ := old j x hj
        have k4 : j ≠ H.next + 1 + 1 + 1 := by have := next_lt hw hj; omega
        simp [hj, hjp, k1, k2, k3, k4]
  · have ht' : Syn.is W s1 t = false := by simpa using ht
    simp [ht', hp1, hp2, Ne.symm hp1, Ne.symm hp2]
    refine ⟨?_, ?_, ?_⟩
    · simp [Syn.right, hx, ht']
      rw [exCells_mk]
      exact .old (by simp [AV.idLt, AV.allLt, kidsV_lt])
    · simp [Syn.right, hx, ht', hp1, hp2]
    · intro j x hjp hj
      obtain ⟨k1, k2, k3⟩ := old j x hj
      simp [hj, hjp, k1, k2, k3]
end Go.Proofs.YthmnpnbcdoemfaaGreatDoor

/-
  The reader of programs (syn): inner, merged, un, cmp.
-/

namespace Go.Proofs.YthmnpnbcdoemfaaGreatDoor
open Go Go.Abs Go.Lex
set_option linter.unusedSimpArgs false
variable {G : Nat → Option AV}

theorem fail_err (W : Syn.Ws) {e : Nat} (he : e ≠ 0) (s : Syn.St) : ¬ (Syn.fail W e s).err = 0 := by unfold Syn.fail; split <;> simp_all
theorem deeper_no {W : Syn.Ws} {d : Int} {s s2 : Syn.St} (h : Syn.deeper W (decide (d = 30)) s = (true, s2)) : d ≠ 30 ∧ s2 = s := by
  by_cases e : d = 30
  · subst e
    simp [Syn.deeper, fail_err W (e := 2) (by omega)] at h
  · simp only [Syn.deeper, e, decide_false, Bool.false_eq_true, if_false, Prod.mk.injEq] at h
    exact ⟨e, h.2.symm⟩
theorem zero_cells : exCells Syn.Ex.zero = [.str [], .str [], .int .i64 0, .int .i64 0, .nilsl] := rfl

set_option maxHeartbeats 2000000 in
set_option maxRecDepth 100000 in
theorem p_inner {W : Syn.Ws} {p : Nat} {d : Int} {below : Syn.P} (hd1 : 1 ≤ d) (hd2 : d ≤ 30) (hb : d ≠ 30 → Reads G W p 59 (d + 1) below) :
    Reads G W p 255 d (Syn.inner W (decide (d = 30)) below) := by
  intro H s h hi
  refine PRes.deep h ?_
  refine Does.wf Tryz.call255 fun hw _ => ?_
  have old : ∀ j x, H.get j = some x → j ≠ H.next := fun j x hj => by have := next_lt hw hj; omega
  refine does_f Tryz.call255 Tryz.func255 rfl (by simp [Tryz.f255]) ?_
  have hp1 := old _ _ h
  simp
  refine does_use (p_deeper (W := W) (s := s) (by unfold PAt; simp [hp1]; exact h) hi d) ?_
  rintro _ H1 ⟨rfl, rfl⟩
  rcases hdp : Syn.deeper W (decide (d = 30)) s with ⟨b, s2⟩
  have hi3 : s2.i < W.length := by
    have := deeper_i W (decide (d = 30)) s
    rw [hdp] at this
    simp only at this
    omega
  cases b with
  | false =>
    simp [hp1, Ne.symm hp1]
    refine ⟨?_, ?_, ?_⟩
    · simp [Syn.inner, hdp]
      exact .old rfl
    · simp [Syn.inner, hdp, hp1]
    · intro j x hjp hj
      simp [hj, hjp, old j x hj]
  | true =>
    have hd30 := (deeper_no hdp).1
    have hw1 : IntKind.i64.wrap (d + 1) = d + 1 := IntWalk.i64_in _ (by omega)
    have hB := hb hd30
    simp [hp1, Ne.symm hp1, hw1]
    refine does_use (hB _ s2 (PAt.set _) hi3) ?_
    rintro _ H2 ⟨rfl, rfl⟩
    rcases hy : below s2 with ⟨⟨op, nm, n, po, ks⟩, s4⟩
    simp [exCells_mk, hp1, Ne.symm hp1]
    refine ⟨?_, ?_, ?_⟩
    · simp [Syn.inner, hdp, hy]
      rw [exCells_mk]
      exact .old (by simp [AV.idLt, AV.allLt, kidsV_lt])
    · simp [Syn.inner, hdp, hy, hp1]
    · intro j x hjp hj
      simp [hj, hjp, old j x hj]

set_option maxHeartbeats 2000000 in
set_option maxRecDepth 100000 in
theorem p_merged {W : Syn.Ws} {p : Nat} {d : Int} {below : Syn.P} (hd1 : 1 ≤ d) (hd2 : d ≤ 30) (hb : d ≠ 30 → Reads G W p 254 (d + 1) below) :
    Reads G W p 258 d (Syn.inner W (decide (d = 30)) below) := by
  intro H s h hi
  refine PRes.deep h ?_
  refine Does.wf Tryz.call258 fun hw _ => ?_
  have old : ∀ j x, H.get j = some x → j ≠ H.next := fun j x hj => by have := next_lt hw hj; omega
  refine does_f Tryz.call258 Tryz.func258 rfl (by simp [Tryz.f258]) ?_
  have hp1 := old _ _ h
  simp
  refine does_use (p_deeper (W := W) (s := s) (by unfold PAt; simp [hp1]; exact h) hi d) ?_
  rintro _ H1 ⟨rfl, rfl⟩
  rcases hdp : Syn.deeper W (decide (d = 30)) s with ⟨b, s2⟩
  have hi3 : s2.i < W.length := by
    have := deeper_i W (decide (d = 30)) s
    rw [hdp] at this
    simp only at this
    omega
  cases b with
  | false =>
    simp [hp1, Ne.symm hp1]
    refine ⟨?_, ?_, ?_⟩
    · simp [Syn.inner, hdp]
      exact .old rfl
    · simp [Syn.inner, hdp, hp1]
    · intro j x hjp hj
      simp [hj, hjp, old j x hj]
  | true =>
    have hd30 := (deeper_no hdp).1
    have hw1 : IntKind.i64.wrap (d + 1) = d + 1 := IntWalk.i64_in _ (by omega)
    have hB := hb hd30
    simp [hp1, Ne.symm hp1, hw1]
    refine does_use (hB _ s2 (PAt.set _) hi3) ?_
    rintro _ H2 ⟨rfl, rfl⟩
    rcases hy : below s2 with ⟨⟨op, nm, n, po, ks⟩, s4⟩
    simp [exCells_mk, hp1, Ne.symm hp1]
    refine ⟨?_, ?_, ?_⟩
    · simp [Syn.inner, hdp, hy]
      rw [exCells_mk]
      exact .old (by simp [AV.idLt, AV.allLt, kidsV_lt])
    · simp [Syn.inner, hdp, hy, hp1]
    · intro j x hjp hj
      simp [hj, hjp, old j x hj]

set_option maxHeartbeats 4000000 in
set_option maxRecDepth 100000 in
theorem p_un {W : Syn.Ws} (hW : WsOk W) {p : Nat} {d : Int} {prim below : Syn.P} (hd1 : 1 ≤ d) (hd2 : d ≤ 30) (hn : Reads G W p 254 d prim) (hb : d ≠ 30 → Reads G W p 253 (d + 1) below) :
    Reads G W p 253 d (Syn.un W prim (decide (d = 30)) below) := by
  intro H s h hi
  refine PRes.deep h ?_
  refine Does.wf Tryz.call253 fun hw _ => ?_
  have old : ∀ j x, H.get j = some x → j ≠ H.next ∧ j ≠ H.next + 1 ∧ j ≠ H.next + 1 + 1 ∧ j ≠ H.next + 1 + 1 + 1 := fun j x hj => by have := next_lt hw hj; omega
  refine does_f Tryz.call253 Tryz.func253 rfl (by simp [Tryz.f253]) ?_
  obtain ⟨hp1, hp2, hp3, hp4⟩ := old _ _ h
  have hq1 := Ne.symm hp1
  have hq2 := Ne.symm hp2
  have hq3 := Ne.symm hp3
  have hq4 := Ne.symm hp4
  have m1 : H.next ≠ H.next + 1 := by omega
  have m2 : H.next ≠ H.next + 1 + 1 := by omega
  have m3 : H.next ≠ H.next + 1 + 1 + 1 := by omega
  have m4 : H.next + 1 ≠ H.next + 1 + 1 + 1 := by omega
  have m5 : H.next + 1 + 1 + 1 ≠ H.next := by omega
  simp
  refine does_use (p_one (W := W) (s := s) (by unfold PAt; simp [hp1, hp2]; exact h) hi [[110, 111, 116], [45], [112, 114, 101]] (H.next + 1) 3 false (by simp) (by simp)) ?_
  rintro _ H1 ⟨rfl, rfl⟩
  by_cases ho : Syn.one W s [[110, 111, 116], [45], [112, 114, 101]] = true
  · have hk1 := one_kind ho
    simp [ho]
    refine does_use (p_part hW (W := W) (s := s) (by unfold PAt; simp [hp1, hp2]; exact h) hi) ?_
    rintro _ H2 ⟨rfl, rfl⟩
    have hi2 := part_ok hW hi hk1.2
    obtain ⟨opn, hopn⟩ : ∃ opn, opn = if (Syn.at_ W s).2.text = [45] then [110, 101, 103] else (Syn.at_ W s).2.text := ⟨_, rfl⟩
    have main : ∀ (c : Bool), c = decide ((Syn.at_ W s).2.text = [45]) → True := fun _ _ => trivial
    by_cases ht : (Syn.at_ W s).2.text = [45]
    all_goals
      simp [ht] at hopn
      subst hopn
      simp [wdCells, ht, text_beq]
      refine does_use (p_deeper (W := W) (s := Syn.part W s) (by unfold PAt; simp [hp1, hp2, hp3, hq1, hq2, hq3]) hi2 d) ?_
      rintro _ H3 ⟨rfl, rfl⟩
      rcases hdp : Syn.deeper W (decide (d = 30)) (Syn.part W s) with ⟨b, s2⟩
      have hi3 : s2.i < W.length := by
        have := deeper_i W (decide (d = 30)) (Syn.part W s)
        rw [hdp] at this
        simp only at this
        omega
      cases b with
      | false =>
        simp [hp1, hp2, hp3, hq1, hq2, hq3, m1, m2, m3, m4]
        refine ⟨?_, ?_, ?_⟩
        · simp [Syn.un, ho, hdp]
          exact .old rfl
        · simp [Syn.un, ho, hdp, hp1, hp2, hp3]
        · intro j x hjp hj
          obtain ⟨k1, k2, k3, k4⟩ := old j x hj
          simp [hj, hjp, k1, k2, k3, k4]
      | true =>
        have hd30 := (deeper_no hdp).1
        have hw1 : IntKind.i64.wrap (d + 1) = d + 1 := IntWalk.i64_in _ (by omega)
        have hB := hb hd30
        simp [hp1, hp2, hp3, hq1, hq2, hq3, m1, m2, m3, m4]
        refine aw_drawn [(2, 0), (2, 7)] mixedOrders (by kernel_rfl) ?_
        intro es hes
        simp [hp1, hp2, hp3, hq1, hq2, hq3, m1, m2, m3, m4, hw1]
        refine ⟨_, _, hB _ s2 (by unfold PAt; simp) hi3, by simp, ?_⟩
        rcases hy : below s2 with ⟨⟨op2, nm2, n2, po2, ks2⟩, s4⟩
        simp [exCells_mk, hp1, hp2, hp3, hp4, hq1, hq2, hq3, hq4, m1, m2, m3, m4, m5, rds, heapF]
        refine ⟨?_, ?_, ?_, ?_⟩
        · subst hes
          exact ⟨by kernel_rfl, by kernel_rfl⟩
        · simp [Syn.un, ho, hdp, hy, ht]
          rw [exCells_mk]
          refine .agg (.cons (.old rfl) (.cons (.old rfl) (.cons (.old rfl) (.cons (.old rfl) (.cons ?_ .nil)))))
          have hkk : kidsV [Syn.Ex.mk op2 nm2 n2 po2 ks2] = .vsl (exsCells [Syn.Ex.mk op2 nm2 n2 po2 ks2]) 1 := rfl
          rw [hkk]
          refine .sl (cs := exsCells [Syn.Ex.mk op2 nm2 n2 po2 ks2]) (by omega) ?_ ?_
          · simp [exsCells, exCells_mk, hp4, hq4, m1, m2, m3, m4, m5]
          · simp only [exsCells, exCells_mk]
            exact .old (by simp [AV.allLt, AV.idLt, kidsV_lt])
        · simp [Syn.un, ho, hdp, hy, hp1, hp2, hp3, hp4]
        · intro j x hjp hj
          obtain ⟨k1, k2, k3, k4⟩ := old j x hj
          simp [hj, hjp, k1, k2, k3, k4]
  · have ho' : Syn.one W s [[110, 111, 116], [45], [112, 114, 101]] = false := by simpa using ho
    simp [ho']
    refine does_use (hn _ s (by unfold PAt; simp [hp1, hp2]; exact h) hi) ?_
    rintro _ H2 ⟨rfl, rfl⟩
    rcases hy : prim s with ⟨⟨op, nm, n, po, ks⟩, s4⟩
    simp [exCells_mk, hp1, hp2, hq1, hq2, m1]
    refine ⟨?_, ?_, ?_⟩
    · simp [Syn.un, ho', hy]
      rw [exCells_mk]
      exact .old (by simp [AV.idLt, AV.allLt, kidsV_lt])
    · simp [Syn.un, ho', hy, hp1, hp2]
    · intro j x hjp hj
      obtain ⟨k1, k2, k3, k4⟩ := old j x hj
      simp [hj, hjp, k1, k2, k3, k4]
end Go.Proofs.YthmnpnbcdoemfaaGreatDoor
