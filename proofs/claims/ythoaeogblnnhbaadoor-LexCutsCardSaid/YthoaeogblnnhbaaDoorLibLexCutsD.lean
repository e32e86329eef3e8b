/-
  Own library of this claim, part 4: texts one behind the other (Facts, LxW1, AbsV, LxW2, LxW3, LxW4, LxW5, LxW6, LxW7, LxW8, LxA, LxE, LxBe, LxR1, LxR2, LxR3, LxR4, LxCu).
-/
import Derived.Test.YthoaeogblnnhbaaDoorProg
import Derived.KernelRfl
import Derived.Test.YthoaeogblnnhbaaDoorLibLexCutsC

/-
  Facts on the types of this program, by program (facts.py).
-/



namespace Go.Proofs
open Go Go.Abs
@[simp] theorem Tryd.asize0 : asize Tryd.prog 0 = some 1 := by kernel_rfl
@[simp] theorem Tryd.info0 : Tryd.prog.info? 0 = some Tryd.t0 := by kernel_rfl
@[simp] theorem Tryd.tsize0 : Tryd.t0.size = 1 := by kernel_rfl
@[simp] theorem Tryd.tbytes0 : Tryd.t0.bytes = 0 := by kernel_rfl
@[simp] theorem Tryd.builder0 : builderTy Tryd.prog 0 = false := by kernel_rfl
@[simp] theorem Tryd.azero0 : azero Tryd.prog 0 = some (.tuple []) := by kernel_rfl
@[simp] theorem Tryd.asize1 : asize Tryd.prog 1 = some 1 := by kernel_rfl
@[simp] theorem Tryd.info1 : Tryd.prog.info? 1 = some Tryd.t1 := by kernel_rfl
@[simp] theorem Tryd.tsize1 : Tryd.t1.size = 1 := by kernel_rfl
@[simp] theorem Tryd.tbytes1 : Tryd.t1.bytes = 8 := by kernel_rfl
@[simp] theorem Tryd.builder1 : builderTy Tryd.prog 1 = false := by kernel_rfl
@[simp] theorem Tryd.azero1 : azero Tryd.prog 1 = some (.nilfunc) := by kernel_rfl
@[simp] theorem Tryd.asize2 : asize Tryd.prog 2 = some 1 := by kernel_rfl
@[simp] theorem Tryd.info2 : Tryd.prog.info? 2 = some Tryd.t2 := by kernel_rfl
@[simp] theorem Tryd.tsize2 : Tryd.t2.size = 1 := by kernel_rfl
@[simp] theorem Tryd.tbytes2 : Tryd.t2.bytes = 8 := by kernel_rfl
@[simp] theorem Tryd.builder2 : builderTy Tryd.prog 2 = false := by kernel_rfl
@[simp] theorem Tryd.azero2 : azero Tryd.prog 2 = some (.int .i64 (0)) := by kernel_rfl
@[simp] theorem Tryd.asize3 : asize Tryd.prog 3 = some 1 := by kernel_rfl
@[simp] theorem Tryd.info3 : Tryd.prog.info? 3 = some Tryd.t3 := by kernel_rfl
@[simp] theorem Tryd.tsize3 : Tryd.t3.size = 1 := by kernel_rfl
@[simp] theorem Tryd.tbytes3 : Tryd.t3.bytes = 8 := by kernel_rfl
@[simp] theorem Tryd.builder3 : builderTy Tryd.prog 3 = false := by kernel_rfl
@[simp] theorem Tryd.azero3 : azero Tryd.prog 3 = some (.int .i64 (0)) := by kernel_rfl
@[simp] theorem Tryd.asize4 : asize Tryd.prog 4 = some 1 := by kernel_rfl
@[simp] theorem Tryd.info4 : Tryd.prog.info? 4 = some Tryd.t4 := by kernel_rfl
@[simp] theorem Tryd.tsize4 : Tryd.t4.size = 1 := by kernel_rfl
@[simp] theorem Tryd.tbytes4 : Tryd.t4.bytes = 1 := by kernel_rfl
@[simp] theorem Tryd.builder4 : builderTy Tryd.prog 4 = false := by kernel_rfl
@[simp] theorem Tryd.azero4 : azero Tryd.prog 4 = some (.bool false) := by kernel_rfl
@[simp] theorem Tryd.asize5 : asize Tryd.prog 5 = some 1 := by kernel_rfl
@[simp] theorem Tryd.info5 : Tryd.prog.info? 5 = some Tryd.t5 := by kernel_rfl
@[simp] theorem Tryd.tsize5 : Tryd.t5.size = 1 := by kernel_rfl
@[simp] theorem Tryd.tbytes5 : Tryd.t5.bytes = 1 := by kernel_rfl
@[simp] theorem Tryd.builder5 : builderTy Tryd.prog 5 = false := by kernel_rfl
@[simp] theorem Tryd.azero5 : azero Tryd.prog 5 = some (.int .u8 (0)) := by kernel_rfl
@[simp] theorem Tryd.asize6 : asize Tryd.prog 6 = some 1 := by kernel_rfl
@[simp] theorem Tryd.info6 : Tryd.prog.info? 6 = some Tryd.t6 := by kernel_rfl
@[simp] theorem Tryd.tsize6 : Tryd.t6.size = 1 := by kernel_rfl
@[simp] theorem Tryd.tbytes6 : Tryd.t6.bytes = 1 := by kernel_rfl
@[simp] theorem Tryd.builder6 : builderTy Tryd.prog 6 = false := by kernel_rfl
@[simp] theorem Tryd.azero6 : azero Tryd.prog 6 = some (.int .u8 (0)) := by kernel_rfl
@[simp] theorem Tryd.asize7 : asize Tryd.prog 7 = some 4 := by kernel_rfl
@[simp] theorem Tryd.info7 : Tryd.prog.info? 7 = some Tryd.t7 := by kernel_rfl
@[simp] theorem Tryd.tsize7 : Tryd.t7.size = 4 := by kernel_rfl
@[simp] theorem Tryd.tbytes7 : Tryd.t7.bytes = 24 := by kernel_rfl
@[simp] theorem Tryd.builder7 : builderTy Tryd.prog 7 = false := by kernel_rfl
@[simp] theorem Tryd.azero7 : azero Tryd.prog 7 = some (.agg [.int .i64 (0), .int .i64 (0), .bool false, .int .u8 (0)]) := by kernel_rfl
@[simp] theorem Tryd.asize8 : asize Tryd.prog 8 = some 4 := by kernel_rfl
@[simp] theorem Tryd.info8 : Tryd.prog.info? 8 = some Tryd.t8 := by kernel_rfl
@[simp] theorem Tryd.tsize8 : Tryd.t8.size = 4 := by kernel_rfl
@[simp] theorem Tryd.tbytes8 : Tryd.t8.bytes = 24 := by kernel_rfl
@[simp] theorem Tryd.builder8 : builderTy Tryd.prog 8 = false := by kernel_rfl
@[simp] theorem Tryd.azero8 : azero Tryd.prog 8 = some (.agg [.int .i64 (0), .int .i64 (0), .bool false, .int .u8 (0)]) := by kernel_rfl
@[simp] theorem Tryd.asize9 : asize Tryd.prog 9 = some 1 := by kernel_rfl
@[simp] theorem Tryd.info9 : Tryd.prog.info? 9 = some Tryd.t9 := by kernel_rfl
@[simp] theorem Tryd.tsize9 : Tryd.t9.size = 1 := by kernel_rfl
@[simp] theorem Tryd.tbytes9 : Tryd.t9.bytes = 16 := by kernel_rfl
@[simp] theorem Tryd.builder9 : builderTy Tryd.prog 9 = false := by kernel_rfl
@[simp] theorem Tryd.azero9 : azero Tryd.prog 9 = some (.str []) := by kernel_rfl
@[simp] theorem Tryd.asize10 : asize Tryd.prog 10 = some 1 := by kernel_rfl
@[simp] theorem Tryd.info10 : Tryd.prog.info? 10 = some Tryd.t10 := by kernel_rfl
@[simp] theorem Tryd.tsize10 : Tryd.t10.size = 1 := by kernel_rfl
@[simp] theorem Tryd.tbytes10 : Tryd.t10.bytes = 16 := by kernel_rfl
@[simp] theorem Tryd.builder10 : builderTy Tryd.prog 10 = false := by kernel_rfl
@[simp] theorem Tryd.azero10 : azero Tryd.prog 10 = some (.str []) := by kernel_rfl
@[simp] theorem Tryd.asize11 : asize Tryd.prog 11 = some 1 := by kernel_rfl
@[simp] theorem Tryd.info11 : Tryd.prog.info? 11 = some Tryd.t11 := by kernel_rfl
@[simp] theorem Tryd.tsize11 : Tryd.t11.size = 1 := by kernel_rfl
@[simp] theorem Tryd.tbytes11 : Tryd.t11.bytes = 16 := by kernel_rfl
@[simp] theorem Tryd.builder11 : builderTy Tryd.prog 11 = false := by kernel_rfl
@[simp] theorem Tryd.azero11 : azero Tryd.prog 11 = some (.str []) := by kernel_rfl
@[simp] theorem Tryd.asize12 : asize Tryd.prog 12 = some 1 := by kernel_rfl
@[simp] theorem Tryd.info12 : Tryd.prog.info? 12 = some Tryd.t12 := by kernel_rfl
@[simp] theorem Tryd.tsize12 : Tryd.t12.size = 1 := by kernel_rfl
@[simp] theorem Tryd.tbytes12 : Tryd.t12.bytes = 8 := by kernel_rfl
@[simp] theorem Tryd.builder12 : builderTy Tryd.prog 12 = false := by kernel_rfl
@[simp] theorem Tryd.azero12 : azero Tryd.prog 12 = some (.int .u64 (0)) := by kernel_rfl
@[simp] theorem Tryd.asize13 : asize Tryd.prog 13 = some 2 := by kernel_rfl
@[simp] theorem Tryd.info13 : Tryd.prog.info? 13 = some Tryd.t13 := by kernel_rfl
@[simp] theorem Tryd.tsize13 : Tryd.t13.size = 2 := by kernel_rfl
@[simp] theorem Tryd.tbytes13 : Tryd.t13.bytes = 24 := by kernel_rfl
@[simp] theorem Tryd.builder13 : builderTy Tryd.prog 13 = false := by kernel_rfl
@[simp] theorem Tryd.azero13 : azero Tryd.prog 13 = some (.agg [.str [], .int .u64 (0)]) := by kernel_rfl
@[simp] theorem Tryd.asize14 : asize Tryd.prog 14 = some 2 := by kernel_rfl
@[simp] theorem Tryd.info14 : Tryd.prog.info? 14 = some Tryd.t14 := by kernel_rfl
@[simp] theorem Tryd.tsize14 : Tryd.t14.size = 2 := by kernel_rfl
@[simp] theorem Tryd.tbytes14 : Tryd.t14.bytes = 24 := by kernel_rfl
@[simp] theorem Tryd.builder14 : builderTy Tryd.prog 14 = false := by kernel_rfl
@[simp] theorem Tryd.azero14 : azero Tryd.prog 14 = some (.agg [.str [], .int .u64 (0)]) := by kernel_rfl
@[simp] theorem Tryd.asize15 : asize Tryd.prog 15 = some 1 := by kernel_rfl
@[simp] theorem Tryd.info15 : Tryd.prog.info? 15 = some Tryd.t15 := by kernel_rfl
@[simp] theorem Tryd.tsize15 : Tryd.t15.size = 1 := by kernel_rfl
@[simp] theorem Tryd.tbytes15 : Tryd.t15.bytes = 8 := by kernel_rfl
@[simp] theorem Tryd.builder15 : builderTy Tryd.prog 15 = false := by kernel_rfl
@[simp] theorem Tryd.azero15 : azero Tryd.prog 15 = some (.nilptr) := by kernel_rfl
@[simp] theorem Tryd.asize16 : asize Tryd.prog 16 = some 1 := by kernel_rfl
@[simp] theorem Tryd.info16 : Tryd.prog.info? 16 = some Tryd.t16 := by kernel_rfl
@[simp] theorem Tryd.tsize16 : Tryd.t16.size = 1 := by kernel_rfl
@[simp] theorem Tryd.tbytes16 : Tryd.t16.bytes = 8 := by kernel_rfl
@[simp] theorem Tryd.builder16 : builderTy Tryd.prog 16 = false := by kernel_rfl
@[simp] theorem Tryd.azero16 : azero Tryd.prog 16 = some (.nilptr) := by kernel_rfl
@[simp] theorem Tryd.asize17 : asize Tryd.prog 17 = some 1 := by kernel_rfl
@[simp] theorem Tryd.info17 : Tryd.prog.info? 17 = some Tryd.t17 := by kernel_rfl
@[simp] theorem Tryd.tsize17 : Tryd.t17.size = 1 := by kernel_rfl
@[simp] theorem Tryd.tbytes17 : Tryd.t17.bytes = 8 := by kernel_rfl
@[simp] theorem Tryd.builder17 : builderTy Tryd.prog 17 = false := by kernel_rfl
@[simp] theorem Tryd.azero17 : azero Tryd.prog 17 = some (.nilptr) := by kernel_rfl
@[simp] theorem Tryd.asize18 : asize Tryd.prog 18 = some 1 := by kernel_rfl
@[simp] theorem Tryd.info18 : Tryd.prog.info? 18 = some Tryd.t18 := by kernel_rfl
@[simp] theorem Tryd.tsize18 : Tryd.t18.size = 1 := by kernel_rfl
@[simp] theorem Tryd.tbytes18 : Tryd.t18.bytes = 8 := by kernel_rfl
@[simp] theorem Tryd.builder18 : builderTy Tryd.prog 18 = false := by kernel_rfl
@[simp] theorem Tryd.azero18 : azero Tryd.prog 18 = some (.agg [.nilptr]) := by kernel_rfl
@[simp] theorem Tryd.asize19 : asize Tryd.prog 19 = some 1 := by kernel_rfl
@[simp] theorem Tryd.info19 : Tryd.prog.info? 19 = some Tryd.t19 := by kernel_rfl
@[simp] theorem Tryd.tsize19 : Tryd.t19.size = 1 := by kernel_rfl
@[simp] theorem Tryd.tbytes19 : Tryd.t19.bytes = 8 := by kernel_rfl
@[simp] theorem Tryd.builder19 : builderTy Tryd.prog 19 = false := by kernel_rfl
@[simp] theorem Tryd.azero19 : azero Tryd.prog 19 = some (.agg [.nilptr]) := by kernel_rfl
@[simp] theorem Tryd.asize20 : asize Tryd.prog 20 = some 1 := by kernel_rfl
@[simp] theorem Tryd.info20 : Tryd.prog.info? 20 = some Tryd.t20 := by kernel_rfl
@[simp] theorem Tryd.tsize20 : Tryd.t20.size = 1 := by kernel_rfl
@[simp] theorem Tryd.tbytes20 : Tryd.t20.bytes = 16 := by kernel_rfl
@[simp] theorem Tryd.builder20 : builderTy Tryd.prog 20 = false := by kernel_rfl
@[simp] theorem Tryd.azero20 : azero Tryd.prog 20 = some (.niliface) := by kernel_rfl
@[simp] theorem Tryd.asize21 : asize Tryd.prog 21 = some 1 := by kernel_rfl
@[simp] theorem Tryd.info21 : Tryd.prog.info? 21 = some Tryd.t21 := by kernel_rfl
@[simp] theorem Tryd.tsize21 : Tryd.t21.size = 1 := by kernel_rfl
@[simp] theorem Tryd.tbytes21 : Tryd.t21.bytes = 4 := by kernel_rfl
@[simp] theorem Tryd.builder21 : builderTy Tryd.prog 21 = false := by kernel_rfl
@[simp] theorem Tryd.azero21 : azero Tryd.prog 21 = some (.int .i32 (0)) := by kernel_rfl
@[simp] theorem Tryd.asize22 : asize Tryd.prog 22 = some 1 := by kernel_rfl
@[simp] theorem Tryd.info22 : Tryd.prog.info? 22 = some Tryd.t22 := by kernel_rfl
@[simp] theorem Tryd.tsize22 : Tryd.t22.size = 1 := by kernel_rfl
@[simp] theorem Tryd.tbytes22 : Tryd.t22.bytes = 8 := by kernel_rfl
@[simp] theorem Tryd.builder22 : builderTy Tryd.prog 22 = false := by kernel_rfl
@[simp] theorem Tryd.azero22 : azero Tryd.prog 22 = some (.nilfunc) := by kernel_rfl
@[simp] theorem Tryd.asize23 : asize Tryd.prog 23 = some 1 := by kernel_rfl
@[simp] theorem Tryd.info23 : Tryd.prog.info? 23 = some Tryd.t23 := by kernel_rfl
@[simp] theorem Tryd.tsize23 : Tryd.t23.size = 1 := by kernel_rfl
@[simp] theorem Tryd.tbytes23 : Tryd.t23.bytes = 24 := by kernel_rfl
@[simp] theorem Tryd.builder23 : builderTy Tryd.prog 23 = false := by kernel_rfl
@[simp] theorem Tryd.azero23 : azero Tryd.prog 23 = some (.nilsl) := by kernel_rfl
@[simp] theorem Tryd.asize24 : asize Tryd.prog 24 = some 1 := by kernel_rfl
@[simp] theorem Tryd.info24 : Tryd.prog.info? 24 = some Tryd.t24 := by kernel_rfl
@[simp] theorem Tryd.tsize24 : Tryd.t24.size = 1 := by kernel_rfl
@[simp] theorem Tryd.tbytes24 : Tryd.t24.bytes = 8 := by kernel_rfl
@[simp] theorem Tryd.builder24 : builderTy Tryd.prog 24 = false := by kernel_rfl
@[simp] theorem Tryd.azero24 : azero Tryd.prog 24 = some (.int .i64 (0)) := by kernel_rfl
@[simp] theorem Tryd.asize25 : asize Tryd.prog 25 = some 2 := by kernel_rfl
@[simp] theorem Tryd.info25 : Tryd.prog.info? 25 = some Tryd.t25 := by kernel_rfl
@[simp] theorem Tryd.tsize25 : Tryd.t25.size = 2 := by kernel_rfl
@[simp] theorem Tryd.tbytes25 : Tryd.t25.bytes = 16 := by kernel_rfl
@[simp] theorem Tryd.builder25 : builderTy Tryd.prog 25 = false := by kernel_rfl
@[simp] theorem Tryd.azero25 : azero Tryd.prog 25 = some (.agg [.int .i64 (0), .int .i64 (0)]) := by kernel_rfl
@[simp] theorem Tryd.asize26 : asize Tryd.prog 26 = some 2 := by kernel_rfl
@[simp] theorem Tryd.info26 : Tryd.prog.info? 26 = some Tryd.t26 := by kernel_rfl
@[simp] theorem Tryd.tsize26 : Tryd.t26.size = 2 := by kernel_rfl
@[simp] theorem Tryd.tbytes26 : Tryd.t26.bytes = 16 := by kernel_rfl
@[simp] theorem Tryd.builder26 : builderTy Tryd.prog 26 = false := by kernel_rfl
@[simp] theorem Tryd.azero26 : azero Tryd.prog 26 = some (.agg [.int .i64 (0), .int .i64 (0)]) := by kernel_rfl
@[simp] theorem Tryd.asize27 : asize Tryd.prog 27 = some 1 := by kernel_rfl
@[simp] theorem Tryd.info27 : Tryd.prog.info? 27 = some Tryd.t27 := by kernel_rfl
@[simp] theorem Tryd.tsize27 : Tryd.t27.size = 1 := by kernel_rfl
@[simp] theorem Tryd.tbytes27 : Tryd.t27.bytes = 0 := by kernel_rfl
@[simp] theorem Tryd.builder27 : builderTy Tryd.prog 27 = false := by kernel_rfl
@[simp] theorem Tryd.asize28 : asize Tryd.prog 28 = some 1 := by kernel_rfl
@[simp] theorem Tryd.info28 : Tryd.prog.info? 28 = some Tryd.t28 := by kernel_rfl
@[simp] theorem Tryd.tsize28 : Tryd.t28.size = 1 := by kernel_rfl
@[simp] theorem Tryd.tbytes28 : Tryd.t28.bytes = 8 := by kernel_rfl
@[simp] theorem Tryd.builder28 : builderTy Tryd.prog 28 = false := by kernel_rfl
@[simp] theorem Tryd.azero28 : azero Tryd.prog 28 = some (.nilfunc) := by kernel_rfl
@[simp] theorem Tryd.asize29 : asize Tryd.prog 29 = some 1 := by kernel_rfl
@[simp] theorem Tryd.info29 : Tryd.prog.info? 29 = some Tryd.t29 := by kernel_rfl
@[simp] theorem Tryd.tsize29 : Tryd.t29.size = 1 := by kernel_rfl
@[simp] theorem Tryd.tbytes29 : Tryd.t29.bytes = 24 := by kernel_rfl
@[simp] theorem Tryd.builder29 : builderTy Tryd.prog 29 = false := by kernel_rfl
@[simp] theorem Tryd.azero29 : azero Tryd.prog 29 = some (.nilsl) := by kernel_rfl
@[simp] theorem Tryd.asize30 : asize Tryd.prog 30 = some 4 := by kernel_rfl
@[simp] theorem Tryd.info30 : Tryd.prog.info? 30 = some Tryd.t30 := by kernel_rfl
@[simp] theorem Tryd.tsize30 : Tryd.t30.size = 4 := by kernel_rfl
@[simp] theorem Tryd.tbytes30 : Tryd.t30.bytes = 40 := by kernel_rfl
@[simp] theorem Tryd.builder30 : builderTy Tryd.prog 30 = false := by kernel_rfl
@[simp] theorem Tryd.azero30 : azero Tryd.prog 30 = some (.agg [.int .i64 (0), .str [], .int .i64 (0), .int .i64 (0)]) := by kernel_rfl
@[simp] theorem Tryd.asize31 : asize Tryd.prog 31 = some 4 := by kernel_rfl
@[simp] theorem Tryd.info31 : Tryd.prog.info? 31 = some Tryd.t31 := by kernel_rfl
@[simp] theorem Tryd.tsize31 : Tryd.t31.size = 4 := by kernel_rfl
@[simp] theorem Tryd.tbytes31 : Tryd.t31.bytes = 40 := by kernel_rfl
@[simp] theorem Tryd.builder31 : builderTy Tryd.prog 31 = false := by kernel_rfl
@[simp] theorem Tryd.azero31 : azero Tryd.prog 31 = some (.agg [.int .i64 (0), .str [], .int .i64 (0), .int .i64 (0)]) := by kernel_rfl
@[simp] theorem Tryd.asize32 : asize Tryd.prog 32 = some 1 := by kernel_rfl
@[simp] theorem Tryd.info32 : Tryd.prog.info? 32 = some Tryd.t32 := by kernel_rfl
@[simp] theorem Tryd.tsize32 : Tryd.t32.size = 1 := by kernel_rfl
@[simp] theorem Tryd.tbytes32 : Tryd.t32.bytes = 24 := by kernel_rfl
@[simp] theorem Tryd.builder32 : builderTy Tryd.prog 32 = false := by kernel_rfl
@[simp] theorem Tryd.azero32 : azero Tryd.prog 32 = some (.nilsl) := by kernel_rfl
@[simp] theorem Tryd.asize33 : asize Tryd.prog 33 = some 2 := by kernel_rfl
@[simp] theorem Tryd.info33 : Tryd.prog.info? 33 = some Tryd.t33 := by kernel_rfl
@[simp] theorem Tryd.tsize33 : Tryd.t33.size = 2 := by kernel_rfl
@[simp] theorem Tryd.tbytes33 : Tryd.t33.bytes = 16 := by kernel_rfl
@[simp] theorem Tryd.builder33 : builderTy Tryd.prog 33 = false := by kernel_rfl
@[simp] theorem Tryd.azero33 : azero Tryd.prog 33 = some (.agg [.int .i64 (0), .int .i64 (0)]) := by kernel_rfl
@[simp] theorem Tryd.asize34 : asize Tryd.prog 34 = some 1 := by kernel_rfl
@[simp] theorem Tryd.info34 : Tryd.prog.info? 34 = some Tryd.t34 := by kernel_rfl
@[simp] theorem Tryd.tsize34 : Tryd.t34.size = 1 := by kernel_rfl
@[simp] theorem Tryd.tbytes34 : Tryd.t34.bytes = 0 := by kernel_rfl
@[simp] theorem Tryd.builder34 : builderTy Tryd.prog 34 = false := by kernel_rfl
@[simp] theorem Tryd.asize35 : asize Tryd.prog 35 = some 1 := by kernel_rfl
@[simp] theorem Tryd.info35 : Tryd.prog.info? 35 = some Tryd.t35 := by kernel_rfl
@[simp] theorem Tryd.tsize35 : Tryd.t35.size = 1 := by kernel_rfl
@[simp] theorem Tryd.tbytes35 : Tryd.t35.bytes = 8 := by kernel_rfl
@[simp] theorem Tryd.builder35 : builderTy Tryd.prog 35 = false := by kernel_rfl
@[simp] theorem Tryd.azero35 : azero Tryd.prog 35 = some (.nilfunc) := by kernel_rfl
@[simp] theorem Tryd.asize36 : asize Tryd.prog 36 = some 1 := by kernel_rfl
@[simp] theorem Tryd.info36 : Tryd.prog.info? 36 = some Tryd.t36 := by kernel_rfl
@[simp] theorem Tryd.tsize36 : Tryd.t36.size = 1 := by kernel_rfl
@[simp] theorem Tryd.tbytes36 : Tryd.t36.bytes = 8 := by kernel_rfl
@[simp] theorem Tryd.builder36 : builderTy Tryd.prog 36 = false := by kernel_rfl
@[simp] theorem Tryd.azero36 : azero Tryd.prog 36 = some (.nilfunc) := by kernel_rfl
@[simp] theorem Tryd.asize37 : asize Tryd.prog 37 = some 4 := by kernel_rfl
@[simp] theorem Tryd.info37 : Tryd.prog.info? 37 = some Tryd.t37 := by kernel_rfl
@[simp] theorem Tryd.tsize37 : Tryd.t37.size = 4 := by kernel_rfl
@[simp] theorem Tryd.tbytes37 : Tryd.t37.bytes = 40 := by kernel_rfl
@[simp] theorem Tryd.builder37 : builderTy Tryd.prog 37 = false := by kernel_rfl
@[simp] theorem Tryd.azero37 : azero Tryd.prog 37 = some (.agg [.int .i64 (0), .str [], .int .i64 (0), .int .i64 (0)]) := by kernel_rfl
@[simp] theorem Tryd.asize38 : asize Tryd.prog 38 = some 1 := by kernel_rfl
@[simp] theorem Tryd.info38 : Tryd.prog.info? 38 = some Tryd.t38 := by kernel_rfl
@[simp] theorem Tryd.tsize38 : Tryd.t38.size = 1 := by kernel_rfl
@[simp] theorem Tryd.tbytes38 : Tryd.t38.bytes = 8 := by kernel_rfl
@[simp] theorem Tryd.builder38 : builderTy Tryd.prog 38 = false := by kernel_rfl
@[simp] theorem Tryd.azero38 : azero Tryd.prog 38 = some (.nilfunc) := by kernel_rfl
@[simp] theorem Tryd.asize39 : asize Tryd.prog 39 = some 1 := by kernel_rfl
@[simp] theorem Tryd.info39 : Tryd.prog.info? 39 = some Tryd.t39 := by kernel_rfl
@[simp] theorem Tryd.tsize39 : Tryd.t39.size = 1 := by kernel_rfl
@[simp] theorem Tryd.tbytes39 : Tryd.t39.bytes = 24 := by kernel_rfl
@[simp] theorem Tryd.builder39 : builderTy Tryd.prog 39 = false := by kernel_rfl
@[simp] theorem Tryd.azero39 : azero Tryd.prog 39 = some (.nilsl) := by kernel_rfl
@[simp] theorem Tryd.asize40 : asize Tryd.prog 40 = some 1 := by kernel_rfl
@[simp] theorem Tryd.info40 : Tryd.prog.info? 40 = some Tryd.t40 := by kernel_rfl
@[simp] theorem Tryd.tsize40 : Tryd.t40.size = 1 := by kernel_rfl
@[simp] theorem Tryd.tbytes40 : Tryd.t40.bytes = 8 := by kernel_rfl
@[simp] theorem Tryd.builder40 : builderTy Tryd.prog 40 = false := by kernel_rfl
@[simp] theorem Tryd.azero40 : azero Tryd.prog 40 = some (.nilfunc) := by kernel_rfl
@[simp] theorem Tryd.asize41 : asize Tryd.prog 41 = some 1 := by kernel_rfl
@[simp] theorem Tryd.info41 : Tryd.prog.info? 41 = some Tryd.t41 := by kernel_rfl
@[simp] theorem Tryd.tsize41 : Tryd.t41.size = 1 := by kernel_rfl
@[simp] theorem Tryd.tbytes41 : Tryd.t41.bytes = 8 := by kernel_rfl
@[simp] theorem Tryd.builder41 : builderTy Tryd.prog 41 = false := by kernel_rfl
@[simp] theorem Tryd.azero41 : azero Tryd.prog 41 = some (.nilfunc) := by kernel_rfl
@[simp] theorem Tryd.asize42 : asize Tryd.prog 42 = some 1 := by kernel_rfl
@[simp] theorem Tryd.info42 : Tryd.prog.info? 42 = some Tryd.t42 := by kernel_rfl
@[simp] theorem Tryd.tsize42 : Tryd.t42.size = 1 := by kernel_rfl
@[simp] theorem Tryd.tbytes42 : Tryd.t42.bytes = 8 := by kernel_rfl
@[simp] theorem Tryd.builder42 : builderTy Tryd.prog 42 = false := by kernel_rfl
@[simp] theorem Tryd.azero42 : azero Tryd.prog 42 = some (.nilfunc) := by kernel_rfl
@[simp] theorem Tryd.asize43 : asize Tryd.prog 43 = some 1 := by kernel_rfl
@[simp] theorem Tryd.info43 : Tryd.prog.info? 43 = some Tryd.t43 := by kernel_rfl
@[simp] theorem Tryd.tsize43 : Tryd.t43.size = 1 := by kernel_rfl
@[simp] theorem Tryd.tbytes43 : Tryd.t43.bytes = 8 := by kernel_rfl
@[simp] theorem Tryd.builder43 : builderTy Tryd.prog 43 = false := by kernel_rfl
@[simp] theorem Tryd.azero43 : azero Tryd.prog 43 = some (.nilfunc) := by kernel_rfl
@[simp] theorem Tryd.asize44 : asize Tryd.prog 44 = some 1 := by kernel_rfl
@[simp] theorem Tryd.info44 : Tryd.prog.info? 44 = some Tryd.t44 := by kernel_rfl
@[simp] theorem Tryd.tsize44 : Tryd.t44.size = 1 := by kernel_rfl
@[simp] theorem Tryd.tbytes44 : Tryd.t44.bytes = 0 := by kernel_rfl
@[simp] theorem Tryd.builder44 : builderTy Tryd.prog 44 = false := by kernel_rfl
@[simp] theorem Tryd.asize45 : asize Tryd.prog 45 = some 1 := by kernel_rfl
@[simp] theorem Tryd.info45 : Tryd.prog.info? 45 = some Tryd.t45 := by kernel_rfl
@[simp] theorem Tryd.tsize45 : Tryd.t45.size = 1 := by kernel_rfl
@[simp] theorem Tryd.tbytes45 : Tryd.t45.bytes = 8 := by kernel_rfl
@[simp] theorem Tryd.builder45 : builderTy Tryd.prog 45 = false := by kernel_rfl
@[simp] theorem Tryd.azero45 : azero Tryd.prog 45 = some (.nilfunc) := by kernel_rfl
@[simp] theorem Tryd.asize46 : asize Tryd.prog 46 = some 1 := by kernel_rfl
@[simp] theorem Tryd.info46 : Tryd.prog.info? 46 = some Tryd.t46 := by kernel_rfl
@[simp] theorem Tryd.tsize46 : Tryd.t46.size = 1 := by kernel_rfl
@[simp] theorem Tryd.tbytes46 : Tryd.t46.bytes = 8 := by kernel_rfl
@[simp] theorem Tryd.builder46 : builderTy Tryd.prog 46 = false := by kernel_rfl
@[simp] theorem Tryd.azero46 : azero Tryd.prog 46 = some (.nilfunc) := by kernel_rfl
@[simp] theorem Tryd.asize47 : asize Tryd.prog 47 = some 1 := by kernel_rfl
@[simp] theorem Tryd.info47 : Tryd.prog.info? 47 = some Tryd.t47 := by kernel_rfl
@[simp] theorem Tryd.tsize47 : Tryd.t47.size = 1 := by kernel_rfl
@[simp] theorem Tryd.tbytes47 : Tryd.t47.bytes = 0 := by kernel_rfl
@[simp] theorem Tryd.builder47 : builderTy Tryd.prog 47 = false := by kernel_rfl
@[simp] theorem Tryd.azero47 : azero Tryd.prog 47 = some (.tuple [.int .i64 (0), .bool false]) := by kernel_rfl
@[simp] theorem Tryd.asize48 : asize Tryd.prog 48 = some 1 := by kernel_rfl
@[simp] theorem Tryd.info48 : Tryd.prog.info? 48 = some Tryd.t48 := by kernel_rfl
@[simp] theorem Tryd.tsize48 : Tryd.t48.size = 1 := by kernel_rfl
@[simp] theorem Tryd.tbytes48 : Tryd.t48.bytes = 8 := by kernel_rfl
@[simp] theorem Tryd.builder48 : builderTy Tryd.prog 48 = false := by kernel_rfl
@[simp] theorem Tryd.azero48 : azero Tryd.prog 48 = some (.nilfunc) := by kernel_rfl
@[simp] theorem Tryd.asize49 : asize Tryd.prog 49 = some 1 := by kernel_rfl
@[simp] theorem Tryd.info49 : Tryd.prog.info? 49 = some Tryd.t49 := by kernel_rfl
@[simp] theorem Tryd.tsize49 : Tryd.t49.size = 1 := by kernel_rfl
@[simp] theorem Tryd.tbytes49 : Tryd.t49.bytes = 8 := by kernel_rfl
@[simp] theorem Tryd.builder49 : builderTy Tryd.prog 49 = false := by kernel_rfl
@[simp] theorem Tryd.azero49 : azero Tryd.prog 49 = some (.nilfunc) := by kernel_rfl
@[simp] theorem Tryd.asize50 : asize Tryd.prog 50 = some 1 := by kernel_rfl
@[simp] theorem Tryd.info50 : Tryd.prog.info? 50 = some Tryd.t50 := by kernel_rfl
@[simp] theorem Tryd.tsize50 : Tryd.t50.size = 1 := by kernel_rfl
@[simp] theorem Tryd.tbytes50 : Tryd.t50.bytes = 8 := by kernel_rfl
@[simp] theorem Tryd.builder50 : builderTy Tryd.prog 50 = false := by kernel_rfl
@[simp] theorem Tryd.azero50 : azero Tryd.prog 50 = some (.nilfunc) := by kernel_rfl
@[simp] theorem Tryd.asize51 : asize Tryd.prog 51 = some 1 := by kernel_rfl
@[simp] theorem Tryd.info51 : Tryd.prog.info? 51 = some Tryd.t51 := by kernel_rfl
@[simp] theorem Tryd.tsize51 : Tryd.t51.size = 1 := by kernel_rfl
@[simp] theorem Tryd.tbytes51 : Tryd.t51.bytes = 8 := by kernel_rfl
@[simp] theorem Tryd.builder51 : builderTy Tryd.prog 51 = false := by kernel_rfl
@[simp] theorem Tryd.azero51 : azero Tryd.prog 51 = some (.nilfunc) := by kernel_rfl
@[simp] theorem Tryd.asize52 : asize Tryd.prog 52 = some 1 := by kernel_rfl
@[simp] theorem Tryd.info52 : Tryd.prog.info? 52 = some Tryd.t52 := by kernel_rfl
@[simp] theorem Tryd.tsize52 : Tryd.t52.size = 1 := by kernel_rfl
@[simp] theorem Tryd.tbytes52 : Tryd.t52.bytes = 8 := by kernel_rfl
@[simp] theorem Tryd.builder52 : builderTy Tryd.prog 52 = false := by kernel_rfl
@[simp] theorem Tryd.azero52 : azero Tryd.prog 52 = some (.nilfunc) := by kernel_rfl
@[simp] theorem Tryd.asize53 : asize Tryd.prog 53 = some 1 := by kernel_rfl
@[simp] theorem Tryd.info53 : Tryd.prog.info? 53 = some Tryd.t53 := by kernel_rfl
@[simp] theorem Tryd.tsize53 : Tryd.t53.size = 1 := by kernel_rfl
@[simp] theorem Tryd.tbytes53 : Tryd.t53.bytes = 8 := by kernel_rfl
@[simp] theorem Tryd.builder53 : builderTy Tryd.prog 53 = false := by kernel_rfl
@[simp] theorem Tryd.azero53 : azero Tryd.prog 53 = some (.nilfunc) := by kernel_rfl
@[simp] theorem Tryd.asize54 : asize Tryd.prog 54 = some 1 := by kernel_rfl
@[simp] theorem Tryd.info54 : Tryd.prog.info? 54 = some Tryd.t54 := by kernel_rfl
@[simp] theorem Tryd.tsize54 : Tryd.t54.size = 1 := by kernel_rfl
@[simp] theorem Tryd.tbytes54 : Tryd.t54.bytes = 8 := by kernel_rfl
@[simp] theorem Tryd.builder54 : builderTy Tryd.prog 54 = false := by kernel_rfl
@[simp] theorem Tryd.azero54 : azero Tryd.prog 54 = some (.int .u64 (0)) := by kernel_rfl
@[simp] theorem Tryd.asize55 : asize Tryd.prog 55 = some 1 := by kernel_rfl
@[simp] theorem Tryd.info55 : Tryd.prog.info? 55 = some Tryd.t55 := by kernel_rfl
@[simp] theorem Tryd.tsize55 : Tryd.t55.size = 1 := by kernel_rfl
@[simp] theorem Tryd.tbytes55 : Tryd.t55.bytes = 8 := by kernel_rfl
@[simp] theorem Tryd.builder55 : builderTy Tryd.prog 55 = false := by kernel_rfl
@[simp] theorem Tryd.azero55 : azero Tryd.prog 55 = some (.nilfunc) := by kernel_rfl
@[simp] theorem Tryd.asize56 : asize Tryd.prog 56 = some 1 := by kernel_rfl
@[simp] theorem Tryd.info56 : Tryd.prog.info? 56 = some Tryd.t56 := by kernel_rfl
@[simp] theorem Tryd.tsize56 : Tryd.t56.size = 1 := by kernel_rfl
@[simp] theorem Tryd.tbytes56 : Tryd.t56.bytes = 8 := by kernel_rfl
@[simp] theorem Tryd.builder56 : builderTy Tryd.prog 56 = false := by kernel_rfl
@[simp] theorem Tryd.azero56 : azero Tryd.prog 56 = some (.nilfunc) := by kernel_rfl
@[simp] theorem Tryd.asize57 : asize Tryd.prog 57 = some 1 := by kernel_rfl
@[simp] theorem Tryd.info57 : Tryd.prog.info? 57 = some Tryd.t57 := by kernel_rfl
@[simp] theorem Tryd.tsize57 : Tryd.t57.size = 1 := by kernel_rfl
@[simp] theorem Tryd.tbytes57 : Tryd.t57.bytes = 16 := by kernel_rfl
@[simp] theorem Tryd.builder57 : builderTy Tryd.prog 57 = false := by kernel_rfl
@[simp] theorem Tryd.azero57 : azero Tryd.prog 57 = some (.niliface) := by kernel_rfl
@[simp] theorem Tryd.asize58 : asize Tryd.prog 58 = some 1 := by kernel_rfl
@[simp] theorem Tryd.info58 : Tryd.prog.info? 58 = some Tryd.t58 := by kernel_rfl
@[simp] theorem Tryd.tsize58 : Tryd.t58.size = 1 := by kernel_rfl
@[simp] theorem Tryd.tbytes58 : Tryd.t58.bytes = 16 := by kernel_rfl
@[simp] theorem Tryd.builder58 : builderTy Tryd.prog 58 = false := by kernel_rfl
@[simp] theorem Tryd.azero58 : azero Tryd.prog 58 = some (.niliface) := by kernel_rfl
@[simp] theorem Tryd.asize59 : asize Tryd.prog 59 = some 1 := by kernel_rfl
@[simp] theorem Tryd.info59 : Tryd.prog.info? 59 = some Tryd.t59 := by kernel_rfl
@[simp] theorem Tryd.tsize59 : Tryd.t59.size = 1 := by kernel_rfl
@[simp] theorem Tryd.tbytes59 : Tryd.t59.bytes = 0 := by kernel_rfl
@[simp] theorem Tryd.builder59 : builderTy Tryd.prog 59 = false := by kernel_rfl
@[simp] theorem Tryd.azero59 : azero Tryd.prog 59 = some (.tuple [.int .i64 (0), .niliface]) := by kernel_rfl
@[simp] theorem Tryd.asize60 : asize Tryd.prog 60 = some 1 := by kernel_rfl
@[simp] theorem Tryd.info60 : Tryd.prog.info? 60 = some Tryd.t60 := by kernel_rfl
@[simp] theorem Tryd.tsize60 : Tryd.t60.size = 1 := by kernel_rfl
@[simp] theorem Tryd.tbytes60 : Tryd.t60.bytes = 8 := by kernel_rfl
@[simp] theorem Tryd.builder60 : builderTy Tryd.prog 60 = false := by kernel_rfl
@[simp] theorem Tryd.azero60 : azero Tryd.prog 60 = some (.nilfunc) := by kernel_rfl
@[simp] theorem Tryd.asize61 : asize Tryd.prog 61 = some 1 := by kernel_rfl
@[simp] theorem Tryd.info61 : Tryd.prog.info? 61 = some Tryd.t61 := by kernel_rfl
@[simp] theorem Tryd.tsize61 : Tryd.t61.size = 1 := by kernel_rfl
@[simp] theorem Tryd.tbytes61 : Tryd.t61.bytes = 8 := by kernel_rfl
@[simp] theorem Tryd.builder61 : builderTy Tryd.prog 61 = false := by kernel_rfl
@[simp] theorem Tryd.azero61 : azero Tryd.prog 61 = some (.nilfunc) := by kernel_rfl
@[simp] theorem Tryd.asize62 : asize Tryd.prog 62 = some 256 := by kernel_rfl
@[simp] theorem Tryd.info62 : Tryd.prog.info? 62 = some Tryd.t62 := by kernel_rfl
@[simp] theorem Tryd.tsize62 : Tryd.t62.size = 256 := by kernel_rfl
@[simp] theorem Tryd.tbytes62 : Tryd.t62.bytes = 256 := by kernel_rfl
@[simp] theorem Tryd.builder62 : builderTy Tryd.prog 62 = false := by kernel_rfl
@[simp] theorem Tryd.asize63 : asize Tryd.prog 63 = some 256 := by kernel_rfl
@[simp] theorem Tryd.info63 : Tryd.prog.info? 63 = some Tryd.t63 := by kernel_rfl
@[simp] theorem Tryd.tsize63 : Tryd.t63.size = 256 := by kernel_rfl
@[simp] theorem Tryd.tbytes63 : Tryd.t63.bytes = 256 := by kernel_rfl
@[simp] theorem Tryd.builder63 : builderTy Tryd.prog 63 = false := by kernel_rfl
@[simp] theorem Tryd.asize64 : asize Tryd.prog 64 = some 1 := by kernel_rfl
@[simp] theorem Tryd.info64 : Tryd.prog.info? 64 = some Tryd.t64 := by kernel_rfl
@[simp] theorem Tryd.tsize64 : Tryd.t64.size = 1 := by kernel_rfl
@[simp] theorem Tryd.tbytes64 : Tryd.t64.bytes = 0 := by kernel_rfl
@[simp] theorem Tryd.builder64 : builderTy Tryd.prog 64 = false := by kernel_rfl
@[simp] theorem Tryd.asize65 : asize Tryd.prog 65 = some 1 := by kernel_rfl
@[simp] theorem Tryd.info65 : Tryd.prog.info? 65 = some Tryd.t65 := by kernel_rfl
@[simp] theorem Tryd.tsize65 : Tryd.t65.size = 1 := by kernel_rfl
@[simp] theorem Tryd.tbytes65 : Tryd.t65.bytes = 8 := by kernel_rfl
@[simp] theorem Tryd.builder65 : builderTy Tryd.prog 65 = false := by kernel_rfl
@[simp] theorem Tryd.azero65 : azero Tryd.prog 65 = some (.nilfunc) := by kernel_rfl
@[simp] theorem Tryd.asize66 : asize Tryd.prog 66 = some 1 := by kernel_rfl
@[simp] theorem Tryd.info66 : Tryd.prog.info? 66 = some Tryd.t66 := by kernel_rfl
@[simp] theorem Tryd.tsize66 : Tryd.t66.size = 1 := by kernel_rfl
@[simp] theorem Tryd.tbytes66 : Tryd.t66.bytes = 8 := by kernel_rfl
@[simp] theorem Tryd.builder66 : builderTy Tryd.prog 66 = false := by kernel_rfl
@[simp] theorem Tryd.azero66 : azero Tryd.prog 66 = some (.nilfunc) := by kernel_rfl
@[simp] theorem Tryd.asize67 : asize Tryd.prog 67 = some 1 := by kernel_rfl
@[simp] theorem Tryd.info67 : Tryd.prog.info? 67 = some Tryd.t67 := by kernel_rfl
@[simp] theorem Tryd.tsize67 : Tryd.t67.size = 1 := by kernel_rfl
@[simp] theorem Tryd.tbytes67 : Tryd.t67.bytes = 8 := by kernel_rfl
@[simp] theorem Tryd.builder67 : builderTy Tryd.prog 67 = false := by kernel_rfl
@[simp] theorem Tryd.azero67 : azero Tryd.prog 67 = some (.nilptr) := by kernel_rfl
@[simp] theorem Tryd.asize68 : asize Tryd.prog 68 = some 1 := by kernel_rfl
@[simp] theorem Tryd.info68 : Tryd.prog.info? 68 = some Tryd.t68 := by kernel_rfl
@[simp] theorem Tryd.tsize68 : Tryd.t68.size = 1 := by kernel_rfl
@[simp] theorem Tryd.tbytes68 : Tryd.t68.bytes = 8 := by kernel_rfl
@[simp] theorem Tryd.builder68 : builderTy Tryd.prog 68 = false := by kernel_rfl
@[simp] theorem Tryd.azero68 : azero Tryd.prog 68 = some (.nilfunc) := by kernel_rfl
@[simp] theorem Tryd.asize69 : asize Tryd.prog 69 = some 1 := by kernel_rfl
@[simp] theorem Tryd.info69 : Tryd.prog.info? 69 = some Tryd.t69 := by kernel_rfl
@[simp] theorem Tryd.tsize69 : Tryd.t69.size = 1 := by kernel_rfl
@[simp] theorem Tryd.tbytes69 : Tryd.t69.bytes = 0 := by kernel_rfl
@[simp] theorem Tryd.builder69 : builderTy Tryd.prog 69 = false := by kernel_rfl
@[simp] theorem Tryd.azero69 : azero Tryd.prog 69 = some (.tuple [.int .i32 (0), .int .i64 (0)]) := by kernel_rfl
@[simp] theorem Tryd.asize70 : asize Tryd.prog 70 = some 1 := by kernel_rfl
@[simp] theorem Tryd.info70 : Tryd.prog.info? 70 = some Tryd.t70 := by kernel_rfl
@[simp] theorem Tryd.tsize70 : Tryd.t70.size = 1 := by kernel_rfl
@[simp] theorem Tryd.tbytes70 : Tryd.t70.bytes = 8 := by kernel_rfl
@[simp] theorem Tryd.builder70 : builderTy Tryd.prog 70 = false := by kernel_rfl
@[simp] theorem Tryd.azero70 : azero Tryd.prog 70 = some (.nilfunc) := by kernel_rfl
@[simp] theorem Tryd.asize71 : asize Tryd.prog 71 = some 1 := by kernel_rfl
@[simp] theorem Tryd.info71 : Tryd.prog.info? 71 = some Tryd.t71 := by kernel_rfl
@[simp] theorem Tryd.tsize71 : Tryd.t71.size = 1 := by kernel_rfl
@[simp] theorem Tryd.tbytes71 : Tryd.t71.bytes = 8 := by kernel_rfl
@[simp] theorem Tryd.builder71 : builderTy Tryd.prog 71 = false := by kernel_rfl
@[simp] theorem Tryd.azero71 : azero Tryd.prog 71 = some (.nilfunc) := by kernel_rfl
@[simp] theorem Tryd.asize72 : asize Tryd.prog 72 = some 1 := by kernel_rfl
@[simp] theorem Tryd.info72 : Tryd.prog.info? 72 = some Tryd.t72 := by kernel_rfl
@[simp] theorem Tryd.tsize72 : Tryd.t72.size = 1 := by kernel_rfl
@[simp] theorem Tryd.tbytes72 : Tryd.t72.bytes = 8 := by kernel_rfl
@[simp] theorem Tryd.builder72 : builderTy Tryd.prog 72 = false := by kernel_rfl
@[simp] theorem Tryd.azero72 : azero Tryd.prog 72 = some (.nilfunc) := by kernel_rfl
@[simp] theorem Tryd.asize73 : asize Tryd.prog 73 = some 1 := by kernel_rfl
@[simp] theorem Tryd.info73 : Tryd.prog.info? 73 = some Tryd.t73 := by kernel_rfl
@[simp] theorem Tryd.tsize73 : Tryd.t73.size = 1 := by kernel_rfl
@[simp] theorem Tryd.tbytes73 : Tryd.t73.bytes = 8 := by kernel_rfl
@[simp] theorem Tryd.builder73 : builderTy Tryd.prog 73 = false := by kernel_rfl
@[simp] theorem Tryd.azero73 : azero Tryd.prog 73 = some (.int .u64 (0)) := by kernel_rfl
@[simp] theorem Tryd.asize74 : asize Tryd.prog 74 = some 1 := by kernel_rfl
@[simp] theorem Tryd.info74 : Tryd.prog.info? 74 = some Tryd.t74 := by kernel_rfl
@[simp] theorem Tryd.tsize74 : Tryd.t74.size = 1 := by kernel_rfl
@[simp] theorem Tryd.tbytes74 : Tryd.t74.bytes = 8 := by kernel_rfl
@[simp] theorem Tryd.builder74 : builderTy Tryd.prog 74 = false := by kernel_rfl
@[simp] theorem Tryd.azero74 : azero Tryd.prog 74 = some (.int .i64 (0)) := by kernel_rfl
@[simp] theorem Tryd.asize75 : asize Tryd.prog 75 = some 1 := by kernel_rfl
@[simp] theorem Tryd.info75 : Tryd.prog.info? 75 = some Tryd.t75 := by kernel_rfl
@[simp] theorem Tryd.tsize75 : Tryd.t75.size = 1 := by kernel_rfl
@[simp] theorem Tryd.tbytes75 : Tryd.t75.bytes = 0 := by kernel_rfl
@[simp] theorem Tryd.builder75 : builderTy Tryd.prog 75 = false := by kernel_rfl
@[simp] theorem Tryd.azero75 : azero Tryd.prog 75 = some (.tuple [.int .u64 (0), .niliface]) := by kernel_rfl
@[simp] theorem Tryd.asize76 : asize Tryd.prog 76 = some 1 := by kernel_rfl
@[simp] theorem Tryd.info76 : Tryd.prog.info? 76 = some Tryd.t76 := by kernel_rfl
@[simp] theorem Tryd.tsize76 : Tryd.t76.size = 1 := by kernel_rfl
@[simp] theorem Tryd.tbytes76 : Tryd.t76.bytes = 8 := by kernel_rfl
@[simp] theorem Tryd.builder76 : builderTy Tryd.prog 76 = false := by kernel_rfl
@[simp] theorem Tryd.azero76 : azero Tryd.prog 76 = some (.nilfunc) := by kernel_rfl
@[simp] theorem Tryd.asize77 : asize Tryd.prog 77 = some 1 := by kernel_rfl
@[simp] theorem Tryd.info77 : Tryd.prog.info? 77 = some Tryd.t77 := by kernel_rfl
@[simp] theorem Tryd.tsize77 : Tryd.t77.size = 1 := by kernel_rfl
@[simp] theorem Tryd.tbytes77 : Tryd.t77.bytes = 8 := by kernel_rfl
@[simp] theorem Tryd.builder77 : builderTy Tryd.prog 77 = false := by kernel_rfl
@[simp] theorem Tryd.azero77 : azero Tryd.prog 77 = some (.nilptr) := by kernel_rfl
@[simp] theorem Tryd.asize78 : asize Tryd.prog 78 = some 1 := by kernel_rfl
@[simp] theorem Tryd.info78 : Tryd.prog.info? 78 = some Tryd.t78 := by kernel_rfl
@[simp] theorem Tryd.tsize78 : Tryd.t78.size = 1 := by kernel_rfl
@[simp] theorem Tryd.tbytes78 : Tryd.t78.bytes = 8 := by kernel_rfl
@[simp] theorem Tryd.builder78 : builderTy Tryd.prog 78 = false := by kernel_rfl
@[simp] theorem Tryd.azero78 : azero Tryd.prog 78 = some (.nilfunc) := by kernel_rfl
@[simp] theorem Tryd.asize79 : asize Tryd.prog 79 = some 1 := by kernel_rfl
@[simp] theorem Tryd.info79 : Tryd.prog.info? 79 = some Tryd.t79 := by kernel_rfl
@[simp] theorem Tryd.tsize79 : Tryd.t79.size = 1 := by kernel_rfl
@[simp] theorem Tryd.tbytes79 : Tryd.t79.bytes = 8 := by kernel_rfl
@[simp] theorem Tryd.builder79 : builderTy Tryd.prog 79 = false := by kernel_rfl
@[simp] theorem Tryd.azero79 : azero Tryd.prog 79 = some (.nilfunc) := by kernel_rfl
@[simp] theorem Tryd.asize80 : asize Tryd.prog 80 = some 1 := by kernel_rfl
@[simp] theorem Tryd.info80 : Tryd.prog.info? 80 = some Tryd.t80 := by kernel_rfl
@[simp] theorem Tryd.tsize80 : Tryd.t80.size = 1 := by kernel_rfl
@[simp] theorem Tryd.tbytes80 : Tryd.t80.bytes = 8 := by kernel_rfl
@[simp] theorem Tryd.builder80 : builderTy Tryd.prog 80 = false := by kernel_rfl
@[simp] theorem Tryd.azero80 : azero Tryd.prog 80 = some (.nilfunc) := by kernel_rfl
@[simp] theorem Tryd.asize81 : asize Tryd.prog 81 = some 1 := by kernel_rfl
@[simp] theorem Tryd.info81 : Tryd.prog.info? 81 = some Tryd.t81 := by kernel_rfl
@[simp] theorem Tryd.tsize81 : Tryd.t81.size = 1 := by kernel_rfl
@[simp] theorem Tryd.tbytes81 : Tryd.t81.bytes = 4 := by kernel_rfl
@[simp] theorem Tryd.builder81 : builderTy Tryd.prog 81 = false := by kernel_rfl
@[simp] theorem Tryd.azero81 : azero Tryd.prog 81 = some (.int .u32 (0)) := by kernel_rfl
@[simp] theorem Tryd.asize82 : asize Tryd.prog 82 = some 1 := by kernel_rfl
@[simp] theorem Tryd.info82 : Tryd.prog.info? 82 = some Tryd.t82 := by kernel_rfl
@[simp] theorem Tryd.tsize82 : Tryd.t82.size = 1 := by kernel_rfl
@[simp] theorem Tryd.tbytes82 : Tryd.t82.bytes = 0 := by kernel_rfl
@[simp] theorem Tryd.builder82 : builderTy Tryd.prog 82 = false := by kernel_rfl
@[simp] theorem Tryd.azero82 : azero Tryd.prog 82 = some (.tuple [.int .u32 (0), .int .u32 (0)]) := by kernel_rfl
@[simp] theorem Tryd.asize83 : asize Tryd.prog 83 = some 1 := by kernel_rfl
@[simp] theorem Tryd.info83 : Tryd.prog.info? 83 = some Tryd.t83 := by kernel_rfl
@[simp] theorem Tryd.tsize83 : Tryd.t83.size = 1 := by kernel_rfl
@[simp] theorem Tryd.tbytes83 : Tryd.t83.bytes = 8 := by kernel_rfl
@[simp] theorem Tryd.builder83 : builderTy Tryd.prog 83 = false := by kernel_rfl
@[simp] theorem Tryd.azero83 : azero Tryd.prog 83 = some (.nilfunc) := by kernel_rfl
@[simp] theorem Tryd.asize84 : asize Tryd.prog 84 = some 1 := by kernel_rfl
@[simp] theorem Tryd.info84 : Tryd.prog.info? 84 = some Tryd.t84 := by kernel_rfl
@[simp] theorem Tryd.tsize84 : Tryd.t84.size = 1 := by kernel_rfl
@[simp] theorem Tryd.tbytes84 : Tryd.t84.bytes = 8 := by kernel_rfl
@[simp] theorem Tryd.builder84 : builderTy Tryd.prog 84 = false := by kernel_rfl
@[simp] theorem Tryd.azero84 : azero Tryd.prog 84 = some (.nilfunc) := by kernel_rfl
@[simp] theorem Tryd.asize85 : asize Tryd.prog 85 = some 3 := by kernel_rfl
@[simp] theorem Tryd.info85 : Tryd.prog.info? 85 = some Tryd.t85 := by kernel_rfl
@[simp] theorem Tryd.tsize85 : Tryd.t85.size = 3 := by kernel_rfl
@[simp] theorem Tryd.tbytes85 : Tryd.t85.bytes = 48 := by kernel_rfl
@[simp] theorem Tryd.builder85 : builderTy Tryd.prog 85 = false := by kernel_rfl
@[simp] theorem Tryd.azero85 : azero Tryd.prog 85 = some (.agg [.str [], .str [], .niliface]) := by kernel_rfl
@[simp] theorem Tryd.asize86 : asize Tryd.prog 86 = some 3 := by kernel_rfl
@[simp] theorem Tryd.info86 : Tryd.prog.info? 86 = some Tryd.t86 := by kernel_rfl
@[simp] theorem Tryd.tsize86 : Tryd.t86.size = 3 := by kernel_rfl
@[simp] theorem Tryd.tbytes86 : Tryd.t86.bytes = 48 := by kernel_rfl
@[simp] theorem Tryd.builder86 : builderTy Tryd.prog 86 = false := by kernel_rfl
@[simp] theorem Tryd.azero86 : azero Tryd.prog 86 = some (.agg [.str [], .str [], .niliface]) := by kernel_rfl
@[simp] theorem Tryd.asize87 : asize Tryd.prog 87 = some 1 := by kernel_rfl
@[simp] theorem Tryd.info87 : Tryd.prog.info? 87 = some Tryd.t87 := by kernel_rfl
@[simp] theorem Tryd.tsize87 : Tryd.t87.size = 1 := by kernel_rfl
@[simp] theorem Tryd.tbytes87 : Tryd.t87.bytes = 8 := by kernel_rfl
@[simp] theorem Tryd.builder87 : builderTy Tryd.prog 87 = false := by kernel_rfl
@[simp] theorem Tryd.azero87 : azero Tryd.prog 87 = some (.nilfunc) := by kernel_rfl
@[simp] theorem Tryd.asize88 : asize Tryd.prog 88 = some 1 := by kernel_rfl
@[simp] theorem Tryd.info88 : Tryd.prog.info? 88 = some Tryd.t88 := by kernel_rfl
@[simp] theorem Tryd.tsize88 : Tryd.t88.size = 1 := by kernel_rfl
@[simp] theorem Tryd.tbytes88 : Tryd.t88.bytes = 8 := by kernel_rfl
@[simp] theorem Tryd.builder88 : builderTy Tryd.prog 88 = false := by kernel_rfl
@[simp] theorem Tryd.azero88 : azero Tryd.prog 88 = some (.nilfunc) := by kernel_rfl
@[simp] theorem Tryd.asize89 : asize Tryd.prog 89 = some 256 := by kernel_rfl
@[simp] theorem Tryd.info89 : Tryd.prog.info? 89 = some Tryd.t89 := by kernel_rfl
@[simp] theorem Tryd.tsize89 : Tryd.t89.size = 256 := by kernel_rfl
@[simp] theorem Tryd.tbytes89 : Tryd.t89.bytes = 256 := by kernel_rfl
@[simp] theorem Tryd.builder89 : builderTy Tryd.prog 89 = false := by kernel_rfl
@[simp] theorem Tryd.asize90 : asize Tryd.prog 90 = some 2 := by kernel_rfl
@[simp] theorem Tryd.info90 : Tryd.prog.info? 90 = some Tryd.t90 := by kernel_rfl
@[simp] theorem Tryd.tsize90 : Tryd.t90.size = 2 := by kernel_rfl
@[simp] theorem Tryd.tbytes90 : Tryd.t90.bytes = 2 := by kernel_rfl
@[simp] theorem Tryd.builder90 : builderTy Tryd.prog 90 = false := by kernel_rfl
@[simp] theorem Tryd.azero90 : azero Tryd.prog 90 = some (.agg [.int .u8 (0), .int .u8 (0)]) := by kernel_rfl
@[simp] theorem Tryd.asize91 : asize Tryd.prog 91 = some 2 := by kernel_rfl
@[simp] theorem Tryd.info91 : Tryd.prog.info? 91 = some Tryd.t91 := by kernel_rfl
@[simp] theorem Tryd.tsize91 : Tryd.t91.size = 2 := by kernel_rfl
@[simp] theorem Tryd.tbytes91 : Tryd.t91.bytes = 2 := by kernel_rfl
@[simp] theorem Tryd.builder91 : builderTy Tryd.prog 91 = false := by kernel_rfl
@[simp] theorem Tryd.azero91 : azero Tryd.prog 91 = some (.agg [.int .u8 (0), .int .u8 (0)]) := by kernel_rfl
@[simp] theorem Tryd.asize92 : asize Tryd.prog 92 = some 32 := by kernel_rfl
@[simp] theorem Tryd.info92 : Tryd.prog.info? 92 = some Tryd.t92 := by kernel_rfl
@[simp] theorem Tryd.tsize92 : Tryd.t92.size = 32 := by kernel_rfl
@[simp] theorem Tryd.tbytes92 : Tryd.t92.bytes = 32 := by kernel_rfl
@[simp] theorem Tryd.builder92 : builderTy Tryd.prog 92 = false := by kernel_rfl
@[simp] theorem Tryd.azero92 : azero Tryd.prog 92 = some (.agg [.int .u8 (0), .int .u8 (0), .int .u8 (0), .int .u8 (0), .int .u8 (0), .int .u8 (0), .int .u8 (0), .int .u8 (0), .int .u8 (0), .int .u8 (0), .int .u8 (0), .int .u8 (0), .int .u8 (0), .int .u8 (0), .int .u8 (0), .int .u8 (0), .int .u8 (0), .int .u8 (0), .int .u8 (0), .int .u8 (0), .int .u8 (0), .int .u8 (0), .int .u8 (0), .int .u8 (0), .int .u8 (0), .int .u8 (0), .int .u8 (0), .int .u8 (0), .int .u8 (0), .int .u8 (0), .int .u8 (0), .int .u8 (0)]) := by kernel_rfl
@[simp] theorem Tryd.asize93 : asize Tryd.prog 93 = some 1 := by kernel_rfl
@[simp] theorem Tryd.info93 : Tryd.prog.info? 93 = some Tryd.t93 := by kernel_rfl
@[simp] theorem Tryd.tsize93 : Tryd.t93.size = 1 := by kernel_rfl
@[simp] theorem Tryd.tbytes93 : Tryd.t93.bytes = 8 := by kernel_rfl
@[simp] theorem Tryd.builder93 : builderTy Tryd.prog 93 = false := by kernel_rfl
@[simp] theorem Tryd.azero93 : azero Tryd.prog 93 = some (.nilfunc) := by kernel_rfl
@[simp] theorem Tryd.asize94 : asize Tryd.prog 94 = some 1 := by kernel_rfl
@[simp] theorem Tryd.info94 : Tryd.prog.info? 94 = some Tryd.t94 := by kernel_rfl
@[simp] theorem Tryd.tsize94 : Tryd.t94.size = 1 := by kernel_rfl
@[simp] theorem Tryd.tbytes94 : Tryd.t94.bytes = 8 := by kernel_rfl
@[simp] theorem Tryd.builder94 : builderTy Tryd.prog 94 = false := by kernel_rfl
@[simp] theorem Tryd.azero94 : azero Tryd.prog 94 = some (.nilptr) := by kernel_rfl
@[simp] theorem Tryd.asize95 : asize Tryd.prog 95 = some 1 := by kernel_rfl
@[simp] theorem Tryd.info95 : Tryd.prog.info? 95 = some Tryd.t95 := by kernel_rfl
@[simp] theorem Tryd.tsize95 : Tryd.t95.size = 1 := by kernel_rfl
@[simp] theorem Tryd.tbytes95 : Tryd.t95.bytes = 8 := by kernel_rfl
@[simp] theorem Tryd.builder95 : builderTy Tryd.prog 95 = false := by kernel_rfl
@[simp] theorem Tryd.azero95 : azero Tryd.prog 95 = some (.nilptr) := by kernel_rfl
@[simp] theorem Tryd.asize96 : asize Tryd.prog 96 = some 1 := by kernel_rfl
@[simp] theorem Tryd.info96 : Tryd.prog.info? 96 = some Tryd.t96 := by kernel_rfl
@[simp] theorem Tryd.tsize96 : Tryd.t96.size = 1 := by kernel_rfl
@[simp] theorem Tryd.tbytes96 : Tryd.t96.bytes = 16 := by kernel_rfl
@[simp] theorem Tryd.builder96 : builderTy Tryd.prog 96 = false := by kernel_rfl
@[simp] theorem Tryd.azero96 : azero Tryd.prog 96 = some (.agg [.str []]) := by kernel_rfl
@[simp] theorem Tryd.asize97 : asize Tryd.prog 97 = some 1 := by kernel_rfl
@[simp] theorem Tryd.info97 : Tryd.prog.info? 97 = some Tryd.t97 := by kernel_rfl
@[simp] theorem Tryd.tsize97 : Tryd.t97.size = 1 := by kernel_rfl
@[simp] theorem Tryd.tbytes97 : Tryd.t97.bytes = 16 := by kernel_rfl
@[simp] theorem Tryd.builder97 : builderTy Tryd.prog 97 = false := by kernel_rfl
@[simp] theorem Tryd.azero97 : azero Tryd.prog 97 = some (.agg [.str []]) := by kernel_rfl
@[simp] theorem Tryd.asize98 : asize Tryd.prog 98 = some 1 := by kernel_rfl
@[simp] theorem Tryd.info98 : Tryd.prog.info? 98 = some Tryd.t98 := by kernel_rfl
@[simp] theorem Tryd.tsize98 : Tryd.t98.size = 1 := by kernel_rfl
@[simp] theorem Tryd.tbytes98 : Tryd.t98.bytes = 8 := by kernel_rfl
@[simp] theorem Tryd.builder98 : builderTy Tryd.prog 98 = false := by kernel_rfl
@[simp] theorem Tryd.azero98 : azero Tryd.prog 98 = some (.nilfunc) := by kernel_rfl
@[simp] theorem Tryd.asize99 : asize Tryd.prog 99 = some 24 := by kernel_rfl
@[simp] theorem Tryd.info99 : Tryd.prog.info? 99 = some Tryd.t99 := by kernel_rfl
@[simp] theorem Tryd.tsize99 : Tryd.t99.size = 24 := by kernel_rfl
@[simp] theorem Tryd.tbytes99 : Tryd.t99.bytes = 24 := by kernel_rfl
@[simp] theorem Tryd.builder99 : builderTy Tryd.prog 99 = false := by kernel_rfl
@[simp] theorem Tryd.azero99 : azero Tryd.prog 99 = some (.agg [.int .u8 (0), .int .u8 (0), .int .u8 (0), .int .u8 (0), .int .u8 (0), .int .u8 (0), .int .u8 (0), .int .u8 (0), .int .u8 (0), .int .u8 (0), .int .u8 (0), .int .u8 (0), .int .u8 (0), .int .u8 (0), .int .u8 (0), .int .u8 (0), .int .u8 (0), .int .u8 (0), .int .u8 (0), .int .u8 (0), .int .u8 (0), .int .u8 (0), .int .u8 (0), .int .u8 (0)]) := by kernel_rfl
@[simp] theorem Tryd.asize100 : asize Tryd.prog 100 = some 1 := by kernel_rfl
@[simp] theorem Tryd.info100 : Tryd.prog.info? 100 = some Tryd.t100 := by kernel_rfl
@[simp] theorem Tryd.tsize100 : Tryd.t100.size = 1 := by kernel_rfl
@[simp] theorem Tryd.tbytes100 : Tryd.t100.bytes = 8 := by kernel_rfl
@[simp] theorem Tryd.builder100 : builderTy Tryd.prog 100 = false := by kernel_rfl
@[simp] theorem Tryd.azero100 : azero Tryd.prog 100 = some (.nilfunc) := by kernel_rfl
@[simp] theorem Tryd.asize101 : asize Tryd.prog 101 = some 1 := by kernel_rfl
@[simp] theorem Tryd.info101 : Tryd.prog.info? 101 = some Tryd.t101 := by kernel_rfl
@[simp] theorem Tryd.tsize101 : Tryd.t101.size = 1 := by kernel_rfl
@[simp] theorem Tryd.tbytes101 : Tryd.t101.bytes = 8 := by kernel_rfl
@[simp] theorem Tryd.builder101 : builderTy Tryd.prog 101 = false := by kernel_rfl
@[simp] theorem Tryd.azero101 : azero Tryd.prog 101 = some (.nilfunc) := by kernel_rfl
@[simp] theorem Tryd.asize102 : asize Tryd.prog 102 = some 1 := by kernel_rfl
@[simp] theorem Tryd.info102 : Tryd.prog.info? 102 = some Tryd.t102 := by kernel_rfl
@[simp] theorem Tryd.tsize102 : Tryd.t102.size = 1 := by kernel_rfl
@[simp] theorem Tryd.tbytes102 : Tryd.t102.bytes = 0 := by kernel_rfl
@[simp] theorem Tryd.builder102 : builderTy Tryd.prog 102 = false := by kernel_rfl
@[simp] theorem Tryd.azero102 : azero Tryd.prog 102 = some (.tuple [.nilsl, .str []]) := by kernel_rfl
@[simp] theorem Tryd.asize103 : asize Tryd.prog 103 = some 1 := by kernel_rfl
@[simp] theorem Tryd.info103 : Tryd.prog.info? 103 = some Tryd.t103 := by kernel_rfl
@[simp] theorem Tryd.tsize103 : Tryd.t103.size = 1 := by kernel_rfl
@[simp] theorem Tryd.tbytes103 : Tryd.t103.bytes = 8 := by kernel_rfl
@[simp] theorem Tryd.builder103 : builderTy Tryd.prog 103 = false := by kernel_rfl
@[simp] theorem Tryd.azero103 : azero Tryd.prog 103 = some (.nilfunc) := by kernel_rfl
@[simp] theorem Tryd.asize104 : asize Tryd.prog 104 = some 1 := by kernel_rfl
@[simp] theorem Tryd.info104 : Tryd.prog.info? 104 = some Tryd.t104 := by kernel_rfl
@[simp] theorem Tryd.tsize104 : Tryd.t104.size = 1 := by kernel_rfl
@[simp] theorem Tryd.tbytes104 : Tryd.t104.bytes = 8 := by kernel_rfl
@[simp] theorem Tryd.builder104 : builderTy Tryd.prog 104 = false := by kernel_rfl
@[simp] theorem Tryd.azero104 : azero Tryd.prog 104 = some (.nilfunc) := by kernel_rfl
@[simp] theorem Tryd.asize105 : asize Tryd.prog 105 = some 20 := by kernel_rfl
@[simp] theorem Tryd.info105 : Tryd.prog.info? 105 = some Tryd.t105 := by kernel_rfl
@[simp] theorem Tryd.tsize105 : Tryd.t105.size = 20 := by kernel_rfl
@[simp] theorem Tryd.tbytes105 : Tryd.t105.bytes = 160 := by kernel_rfl
@[simp] theorem Tryd.builder105 : builderTy Tryd.prog 105 = false := by kernel_rfl
@[simp] theorem Tryd.azero105 : azero Tryd.prog 105 = some (.agg [.int .u64 (0), .int .u64 (0), .int .u64 (0), .int .u64 (0), .int .u64 (0), .int .u64 (0), .int .u64 (0), .int .u64 (0), .int .u64 (0), .int .u64 (0), .int .u64 (0), .int .u64 (0), .int .u64 (0), .int .u64 (0), .int .u64 (0), .int .u64 (0), .int .u64 (0), .int .u64 (0), .int .u64 (0), .int .u64 (0)]) := by kernel_rfl
@[simp] theorem Tryd.asize106 : asize Tryd.prog 106 = some 65 := by kernel_rfl
@[simp] theorem Tryd.info106 : Tryd.prog.info? 106 = some Tryd.t106 := by kernel_rfl
@[simp] theorem Tryd.tsize106 : Tryd.t106.size = 65 := by kernel_rfl
@[simp] theorem Tryd.tbytes106 : Tryd.t106.bytes = 65 := by kernel_rfl
@[simp] theorem Tryd.builder106 : builderTy Tryd.prog 106 = false := by kernel_rfl
@[simp] theorem Tryd.azero106 : azero Tryd.prog 106 = some (.agg [.int .u8 (0), .int .u8 (0), .int .u8 (0), .int .u8 (0), .int .u8 (0), .int .u8 (0), .int .u8 (0), .int .u8 (0), .int .u8 (0), .int .u8 (0), .int .u8 (0), .int .u8 (0), .int .u8 (0), .int .u8 (0), .int .u8 (0), .int .u8 (0), .int .u8 (0), .int .u8 (0), .int .u8 (0), .int .u8 (0), .int .u8 (0), .int .u8 (0), .int .u8 (0), .int .u8 (0), .int .u8 (0), .int .u8 (0), .int .u8 (0), .int .u8 (0), .int .u8 (0), .int .u8 (0), .int .u8 (0), .int .u8 (0), .int .u8 (0), .int .u8 (0), .int .u8 (0), .int .u8 (0), .int .u8 (0), .int .u8 (0), .int .u8 (0), .int .u8 (0), .int .u8 (0), .int .u8 (0), .int .u8 (0), .int .u8 (0), .int .u8 (0), .int .u8 (0), .int .u8 (0), .int .u8 (0), .int .u8 (0), .int .u8 (0), .int .u8 (0), .int .u8 (0), .int .u8 (0), .int .u8 (0), .int .u8 (0), .int .u8 (0), .int .u8 (0), .int .u8 (0), .int .u8 (0), .int .u8 (0), .int .u8 (0), .int .u8 (0), .int .u8 (0), .int .u8 (0), .int .u8 (0)]) := by kernel_rfl
@[simp] theorem Tryd.asize107 : asize Tryd.prog 107 = some 1 := by kernel_rfl
@[simp] theorem Tryd.info107 : Tryd.prog.info? 107 = some Tryd.t107 := by kernel_rfl
@[simp] theorem Tryd.tsize107 : Tryd.t107.size = 1 := by kernel_rfl
@[simp] theorem Tryd.tbytes107 : Tryd.t107.bytes = 8 := by kernel_rfl
@[simp] theorem Tryd.builder107 : builderTy Tryd.prog 107 = false := by kernel_rfl
@[simp] theorem Tryd.azero107 : azero Tryd.prog 107 = some (.nilfunc) := by kernel_rfl
@[simp] theorem Tryd.asize108 : asize Tryd.prog 108 = some 1 := by kernel_rfl
@[simp] theorem Tryd.info108 : Tryd.prog.info? 108 = some Tryd.t108 := by kernel_rfl
@[simp] theorem Tryd.tsize108 : Tryd.t108.size = 1 := by kernel_rfl
@[simp] theorem Tryd.tbytes108 : Tryd.t108.bytes = 8 := by kernel_rfl
@[simp] theorem Tryd.builder108 : builderTy Tryd.prog 108 = false := by kernel_rfl
@[simp] theorem Tryd.azero108 : azero Tryd.prog 108 = some (.nilfunc) := by kernel_rfl
@[simp] theorem Tryd.asize109 : asize Tryd.prog 109 = some 1 := by kernel_rfl
@[simp] theorem Tryd.info109 : Tryd.prog.info? 109 = some Tryd.t109 := by kernel_rfl
@[simp] theorem Tryd.tsize109 : Tryd.t109.size = 1 := by kernel_rfl
@[simp] theorem Tryd.tbytes109 : Tryd.t109.bytes = 8 := by kernel_rfl
@[simp] theorem Tryd.builder109 : builderTy Tryd.prog 109 = false := by kernel_rfl
@[simp] theorem Tryd.azero109 : azero Tryd.prog 109 = some (.nilfunc) := by kernel_rfl
@[simp] theorem Tryd.asize110 : asize Tryd.prog 110 = some 32 := by kernel_rfl
@[simp] theorem Tryd.info110 : Tryd.prog.info? 110 = some Tryd.t110 := by kernel_rfl
@[simp] theorem Tryd.tsize110 : Tryd.t110.size = 32 := by kernel_rfl
@[simp] theorem Tryd.tbytes110 : Tryd.t110.bytes = 32 := by kernel_rfl
@[simp] theorem Tryd.builder110 : builderTy Tryd.prog 110 = false := by kernel_rfl
@[simp] theorem Tryd.azero110 : azero Tryd.prog 110 = some (.agg [.int .u8 (0), .int .u8 (0), .int .u8 (0), .int .u8 (0), .int .u8 (0), .int .u8 (0), .int .u8 (0), .int .u8 (0), .int .u8 (0), .int .u8 (0), .int .u8 (0), .int .u8 (0), .int .u8 (0), .int .u8 (0), .int .u8 (0), .int .u8 (0), .int .u8 (0), .int .u8 (0), .int .u8 (0), .int .u8 (0), .int .u8 (0), .int .u8 (0), .int .u8 (0), .int .u8 (0), .int .u8 (0), .int .u8 (0), .int .u8 (0), .int .u8 (0), .int .u8 (0), .int .u8 (0), .int .u8 (0), .int .u8 (0)]) := by kernel_rfl
@[simp] theorem Tryd.asize111 : asize Tryd.prog 111 = some 64 := by kernel_rfl
@[simp] theorem Tryd.info111 : Tryd.prog.info? 111 = some Tryd.t111 := by kernel_rfl
@[simp] theorem Tryd.tsize111 : Tryd.t111.size = 64 := by kernel_rfl
@[simp] theorem Tryd.tbytes111 : Tryd.t111.bytes = 64 := by kernel_rfl
@[simp] theorem Tryd.builder111 : builderTy Tryd.prog 111 = false := by kernel_rfl
@[simp] theorem Tryd.azero111 : azero Tryd.prog 111 = some (.agg [.int .u8 (0), .int .u8 (0), .int .u8 (0), .int .u8 (0), .int .u8 (0), .int .u8 (0), .int .u8 (0), .int .u8 (0), .int .u8 (0), .int .u8 (0), .int .u8 (0), .int .u8 (0), .int .u8 (0), .int .u8 (0), .int .u8 (0), .int .u8 (0), .int .u8 (0), .int .u8 (0), .int .u8 (0), .int .u8 (0), .int .u8 (0), .int .u8 (0), .int .u8 (0), .int .u8 (0), .int .u8 (0), .int .u8 (0), .int .u8 (0), .int .u8 (0), .int .u8 (0), .int .u8 (0), .int .u8 (0), .int .u8 (0), .int .u8 (0), .int .u8 (0), .int .u8 (0), .int .u8 (0), .int .u8 (0), .int .u8 (0), .int .u8 (0), .int .u8 (0), .int .u8 (0), .int .u8 (0), .int .u8 (0), .int .u8 (0), .int .u8 (0), .int .u8 (0), .int .u8 (0), .int .u8 (0), .int .u8 (0), .int .u8 (0), .int .u8 (0), .int .u8 (0), .int .u8 (0), .int .u8 (0), .int .u8 (0), .int .u8 (0), .int .u8 (0), .int .u8 (0), .int .u8 (0), .int .u8 (0), .int .u8 (0), .int .u8 (0), .int .u8 (0), .int .u8 (0)]) := by kernel_rfl
@[simp] theorem Tryd.asize112 : asize Tryd.prog 112 = some 1 := by kernel_rfl
@[simp] theorem Tryd.info112 : Tryd.prog.info? 112 = some Tryd.t112 := by kernel_rfl
@[simp] theorem Tryd.tsize112 : Tryd.t112.size = 1 := by kernel_rfl
@[simp] theorem Tryd.tbytes112 : Tryd.t112.bytes = 8 := by kernel_rfl
@[simp] theorem Tryd.builder112 : builderTy Tryd.prog 112 = false := by kernel_rfl
@[simp] theorem Tryd.azero112 : azero Tryd.prog 112 = some (.nilfunc) := by kernel_rfl
@[simp] theorem Tryd.asize113 : asize Tryd.prog 113 = some 4 := by kernel_rfl
@[simp] theorem Tryd.info113 : Tryd.prog.info? 113 = some Tryd.t113 := by kernel_rfl
@[simp] theorem Tryd.tsize113 : Tryd.t113.size = 4 := by kernel_rfl
@[simp] theorem Tryd.tbytes113 : Tryd.t113.bytes = 40 := by kernel_rfl
@[simp] theorem Tryd.builder113 : builderTy Tryd.prog 113 = false := by kernel_rfl
@[simp] theorem Tryd.azero113 : azero Tryd.prog 113 = some (.agg [.nilptr, .nilptr, .nilptr, .str []]) := by kernel_rfl
@[simp] theorem Tryd.asize114 : asize Tryd.prog 114 = some 4 := by kernel_rfl
@[simp] theorem Tryd.info114 : Tryd.prog.info? 114 = some Tryd.t114 := by kernel_rfl
@[simp] theorem Tryd.tsize114 : Tryd.t114.size = 4 := by kernel_rfl
@[simp] theorem Tryd.tbytes114 : Tryd.t114.bytes = 40 := by kernel_rfl
@[simp] theorem Tryd.builder114 : builderTy Tryd.prog 114 = false := by kernel_rfl
@[simp] theorem Tryd.azero114 : azero Tryd.prog 114 = some (.agg [.nilptr, .nilptr, .nilptr, .str []]) := by kernel_rfl
@[simp] theorem Tryd.asize115 : asize Tryd.prog 115 = some 0 := by kernel_rfl
@[simp] theorem Tryd.info115 : Tryd.prog.info? 115 = some Tryd.t115 := by kernel_rfl
@[simp] theorem Tryd.tsize115 : Tryd.t115.size = 0 := by kernel_rfl
@[simp] theorem Tryd.tbytes115 : Tryd.t115.bytes = 0 := by kernel_rfl
@[simp] theorem Tryd.builder115 : builderTy Tryd.prog 115 = false := by kernel_rfl
@[simp] theorem Tryd.azero115 : azero Tryd.prog 115 = some (.agg []) := by kernel_rfl
@[simp] theorem Tryd.asize116 : asize Tryd.prog 116 = some 0 := by kernel_rfl
@[simp] theorem Tryd.info116 : Tryd.prog.info? 116 = some Tryd.t116 := by kernel_rfl
@[simp] theorem Tryd.tsize116 : Tryd.t116.size = 0 := by kernel_rfl
@[simp] theorem Tryd.tbytes116 : Tryd.t116.bytes = 0 := by kernel_rfl
@[simp] theorem Tryd.builder116 : builderTy Tryd.prog 116 = false := by kernel_rfl
@[simp] theorem Tryd.azero116 : azero Tryd.prog 116 = some (.agg []) := by kernel_rfl
@[simp] theorem Tryd.asize117 : asize Tryd.prog 117 = some 0 := by kernel_rfl
@[simp] theorem Tryd.info117 : Tryd.prog.info? 117 = some Tryd.t117 := by kernel_rfl
@[simp] theorem Tryd.tsize117 : Tryd.t117.size = 0 := by kernel_rfl
@[simp] theorem Tryd.tbytes117 : Tryd.t117.bytes = 0 := by kernel_rfl
@[simp] theorem Tryd.builder117 : builderTy Tryd.prog 117 = false := by kernel_rfl
@[simp] theorem Tryd.azero117 : azero Tryd.prog 117 = some (.agg []) := by kernel_rfl
@[simp] theorem Tryd.asize118 : asize Tryd.prog 118 = some 1 := by kernel_rfl
@[simp] theorem Tryd.info118 : Tryd.prog.info? 118 = some Tryd.t118 := by kernel_rfl
@[simp] theorem Tryd.tsize118 : Tryd.t118.size = 1 := by kernel_rfl
@[simp] theorem Tryd.tbytes118 : Tryd.t118.bytes = 8 := by kernel_rfl
@[simp] theorem Tryd.builder118 : builderTy Tryd.prog 118 = false := by kernel_rfl
@[simp] theorem Tryd.azero118 : azero Tryd.prog 118 = some (.nilfunc) := by kernel_rfl
@[simp] theorem Tryd.asize119 : asize Tryd.prog 119 = some 1 := by kernel_rfl
@[simp] theorem Tryd.info119 : Tryd.prog.info? 119 = some Tryd.t119 := by kernel_rfl
@[simp] theorem Tryd.tsize119 : Tryd.t119.size = 1 := by kernel_rfl
@[simp] theorem Tryd.tbytes119 : Tryd.t119.bytes = 1 := by kernel_rfl
@[simp] theorem Tryd.builder119 : builderTy Tryd.prog 119 = false := by kernel_rfl
@[simp] theorem Tryd.azero119 : azero Tryd.prog 119 = some (.int .u8 (0)) := by kernel_rfl
@[simp] theorem Tryd.asize120 : asize Tryd.prog 120 = some 1 := by kernel_rfl
@[simp] theorem Tryd.info120 : Tryd.prog.info? 120 = some Tryd.t120 := by kernel_rfl
@[simp] theorem Tryd.tsize120 : Tryd.t120.size = 1 := by kernel_rfl
@[simp] theorem Tryd.tbytes120 : Tryd.t120.bytes = 1 := by kernel_rfl
@[simp] theorem Tryd.builder120 : builderTy Tryd.prog 120 = false := by kernel_rfl
@[simp] theorem Tryd.azero120 : azero Tryd.prog 120 = some (.int .u8 (0)) := by kernel_rfl
@[simp] theorem Tryd.asize121 : asize Tryd.prog 121 = some 1 := by kernel_rfl
@[simp] theorem Tryd.info121 : Tryd.prog.info? 121 = some Tryd.t121 := by kernel_rfl
@[simp] theorem Tryd.tsize121 : Tryd.t121.size = 1 := by kernel_rfl
@[simp] theorem Tryd.tbytes121 : Tryd.t121.bytes = 8 := by kernel_rfl
@[simp] theorem Tryd.builder121 : builderTy Tryd.prog 121 = false := by kernel_rfl
@[simp] theorem Tryd.azero121 : azero Tryd.prog 121 = some (.nilfunc) := by kernel_rfl
@[simp] theorem Tryd.asize122 : asize Tryd.prog 122 = some 1 := by kernel_rfl
@[simp] theorem Tryd.info122 : Tryd.prog.info? 122 = some Tryd.t122 := by kernel_rfl
@[simp] theorem Tryd.tsize122 : Tryd.t122.size = 1 := by kernel_rfl
@[simp] theorem Tryd.tbytes122 : Tryd.t122.bytes = 4 := by kernel_rfl
@[simp] theorem Tryd.builder122 : builderTy Tryd.prog 122 = false := by kernel_rfl
@[simp] theorem Tryd.azero122 : azero Tryd.prog 122 = some (.int .i32 (0)) := by kernel_rfl
@[simp] theorem Tryd.asize123 : asize Tryd.prog 123 = some 1 := by kernel_rfl
@[simp] theorem Tryd.info123 : Tryd.prog.info? 123 = some Tryd.t123 := by kernel_rfl
@[simp] theorem Tryd.tsize123 : Tryd.t123.size = 1 := by kernel_rfl
@[simp] theorem Tryd.tbytes123 : Tryd.t123.bytes = 4 := by kernel_rfl
@[simp] theorem Tryd.builder123 : builderTy Tryd.prog 123 = false := by kernel_rfl
@[simp] theorem Tryd.azero123 : azero Tryd.prog 123 = some (.int .i32 (0)) := by kernel_rfl
@[simp] theorem Tryd.asize124 : asize Tryd.prog 124 = some 11 := by kernel_rfl
@[simp] theorem Tryd.info124 : Tryd.prog.info? 124 = some Tryd.t124 := by kernel_rfl
@[simp] theorem Tryd.tsize124 : Tryd.t124.size = 11 := by kernel_rfl
@[simp] theorem Tryd.tbytes124 : Tryd.t124.bytes = 48 := by kernel_rfl
@[simp] theorem Tryd.builder124 : builderTy Tryd.prog 124 = false := by kernel_rfl
@[simp] theorem Tryd.azero124 : azero Tryd.prog 124 = some (.agg [.int .u64 (0), .int .u64 (0), .int .u32 (0), .int .u8 (0), .int .u8 (0), .int .u8 (0), .int .u8 (0), .nilfunc, .nilptr, .int .i32 (0), .int .i32 (0)]) := by kernel_rfl
@[simp] theorem Tryd.asize125 : asize Tryd.prog 125 = some 11 := by kernel_rfl
@[simp] theorem Tryd.info125 : Tryd.prog.info? 125 = some Tryd.t125 := by kernel_rfl
@[simp] theorem Tryd.tsize125 : Tryd.t125.size = 11 := by kernel_rfl
@[simp] theorem Tryd.tbytes125 : Tryd.t125.bytes = 48 := by kernel_rfl
@[simp] theorem Tryd.builder125 : builderTy Tryd.prog 125 = false := by kernel_rfl
@[simp] theorem Tryd.azero125 : azero Tryd.prog 125 = some (.agg [.int .u64 (0), .int .u64 (0), .int .u32 (0), .int .u8 (0), .int .u8 (0), .int .u8 (0), .int .u8 (0), .nilfunc, .nilptr, .int .i32 (0), .int .i32 (0)]) := by kernel_rfl
@[simp] theorem Tryd.asize126 : asize Tryd.prog 126 = some 1 := by kernel_rfl
@[simp] theorem Tryd.info126 : Tryd.prog.info? 126 = some Tryd.t126 := by kernel_rfl
@[simp] theorem Tryd.tsize126 : Tryd.t126.size = 1 := by kernel_rfl
@[simp] theorem Tryd.tbytes126 : Tryd.t126.bytes = 8 := by kernel_rfl
@[simp] theorem Tryd.builder126 : builderTy Tryd.prog 126 = false := by kernel_rfl
@[simp] theorem Tryd.azero126 : azero Tryd.prog 126 = some (.nilptr) := by kernel_rfl
end Go.Proofs

/-
  Functions of Go's library on strings, walked: HasPrefix, TrimLeft, IndexByte, Contains, slices.Contains.
-/



namespace Go.Proofs.YthoaeogblnnhbaaDoor
open Go Go.Abs Go.Lex
set_option linter.unusedSimpArgs false
variable {G : Nat → Option AV}

theorem hasPrefixL (s p : List UInt8) (H : AHeap) : Does Tryd.prog G 30 [.str s, .str p] H fun r H' => r = .bool (p.isPrefixOf s) ∧ H' = H := by
  refine does_f Tryd.call30 Tryd.func30 rfl (by simp [Tryd.f30]) ?_
  by_cases h : p.length ≤ s.length
  · have h1 : (p.length : Int) ≤ s.length := by omega
    simp [h, h1]
    rw [Bool.eq_iff_iff, List.isPrefixOf_iff_prefix, List.prefix_iff_eq_take]
    simp
    exact eq_comm
  · have h1 : ¬ (p.length : Int) ≤ s.length := by omega
    have h2 : p.isPrefixOf s = false := by
      rw [Bool.eq_false_iff]
      intro e
      exact h (List.isPrefixOf_iff_prefix.1 e).length_le
    simp [h, h1, h2]

theorem hasPrefix (s p : List UInt8) (H : AHeap) : Does Tryd.prog G 23 [.str s, .str p] H fun r H' => r = .bool (p.isPrefixOf s) ∧ H' = H := by
  refine does_f Tryd.call23 Tryd.func23 rfl (by simp [Tryd.f23]) ?_
  simp
  refine does_use (hasPrefixL s p H) ?_
  rintro _ _ ⟨rfl, rfl⟩
  simp

theorem asciiContains (H : AHeap) (i : Nat) (cs : List AV) (b : UInt8) (v : Bool) (h : H.get i = some (.cells cs)) (hl : cs.length = 256) (hv : cs[b.toNat]? = some (.bool v)) :
    Does Tryd.prog G 42 [.ptr i 0, .int .u8 b.toNat] H fun r H' => r = .bool v ∧ H' = H := by
  have hb := b.toNat_lt
  have h1 : (b.toNat : Int) < 256 := by omega
  have h2 : b.toNat ≤ 256 := by omega
  refine does_f Tryd.call42 Tryd.func42 rfl (by simp [Tryd.f42]) ?_
  simp [h, hl, hv, h1, h2]

/-- The cells of a set of bytes. -/
def asciiCells (l : List UInt8) : List AV := (List.range 256).map fun k => .bool (l.any fun b => b.toNat == k)
@[simp] theorem asciiCells_length (l : List UInt8) : (asciiCells l).length = 256 := by simp [asciiCells]
theorem asciiCells_get (l : List UInt8) (b : UInt8) : (asciiCells l)[b.toNat]? = some (.bool (l.contains b)) := by
  have hb := b.toNat_lt
  simp only [asciiCells, List.getElem?_map]
  rw [List.getElem?_range hb]
  simp only [Option.map_some, Option.some.injEq, AV.bool.injEq]
  rw [Bool.eq_iff_iff]
  simp only [List.any_eq_true, beq_iff_eq, List.contains_iff_mem]
  constructor
  · rintro ⟨x, hx, e⟩
    rw [← UInt8.toNat_inj.1 e]; exact hx
  · intro h; exact ⟨b, h, rfl⟩
theorem asciiCells_set (l : List UInt8) (b : UInt8) : (asciiCells l).set b.toNat (.bool true) = asciiCells (l ++ [b]) := by
  apply List.ext_getElem?
  intro k
  rw [List.getElem?_set]
  simp only [asciiCells, List.getElem?_map, List.length_map, List.length_range]
  by_cases hk : k < 256
  · rw [List.getElem?_range hk]
    by_cases e : b.toNat = k
    · subst e; simp [hk]
    · rw [if_neg e]
      simp [e]
  · have : (List.range 256)[k]? = none := List.getElem?_eq_none (by simp; omega)
    rw [this]
    split <;> simp
    omega
theorem asciiCells_nil : asciiCells [] = List.replicate 256 (.bool false) := by
  apply List.ext_getElem?
  intro k
  simp only [asciiCells, List.getElem?_map, List.getElem?_replicate]
  by_cases hk : k < 256
  · rw [List.getElem?_range hk, if_pos hk]; rfl
  · rw [List.getElem?_eq_none (by rw [List.length_range]; omega), if_neg hk]; rfl
end Go.Proofs.YthoaeogblnnhbaaDoor

/-
  A simplified meaning for Go code: loops on a walk by simp; a closed call over any heap.
-/

namespace Go.Abs
open Go

theorem aws_loop {X : Ctx} {c : Code} {Q : Post} {T : Nat → AV} {H : AHeap} (I : Nat → (Nat → AV) → AHeap → Prop) (n : Nat) (h0 : I n T H)
    (round : ∀ n T H, I n T H → @AWf ⟨X⟩ ⟨c⟩ ⟨QThen (fun T' H' => ∃ m, m < n ∧ I m T' H') Q⟩ ⟨T⟩ H) : @AWs ⟨X⟩ ⟨.loop c⟩ ⟨Q⟩ ⟨T⟩ H :=
  aw_loop I n h0 fun n T H h => awf_of (round n T H h)

/-- What is there when code runs is well formed. -/
theorem aw_wf {P : Program} {G : Nat → Option AV} {N : Nat} {c : Code} {Q : Post} {T : Nat → AV} {H : AHeap} (h : H.Wf → (∀ t, (T t).idLt H.next = true) → AW P G N c Q T H) : AW P G N c Q T H := by
  intro E0 a w hG hs
  obtain ⟨⟨E, hx, hR, hT⟩, hd⟩ := hs
  exact h hR.wf (fun t => VRel.idLt hR.dom (hT.rel t)) E0 a w hG ⟨⟨E, hx, hR, hT⟩, hd⟩

/-- A loop, with what is well formed at each round's head. -/
theorem aws_loopw {X : Ctx} {c : Code} {Q : Post} {T : Nat → AV} {H : AHeap} (I : Nat → (Nat → AV) → AHeap → Prop) (n : Nat) (h0 : I n T H)
    (round : ∀ n T H, I n T H → H.Wf → (∀ t, (T t).idLt H.next = true) → @AWf ⟨X⟩ ⟨c⟩ ⟨QThen (fun T' H' => ∃ m, m < n ∧ I m T' H') Q⟩ ⟨T⟩ H) : @AWs ⟨X⟩ ⟨.loop c⟩ ⟨Q⟩ ⟨T⟩ H :=
  aw_loop I n h0 fun n T H h => aw_wf fun hw ht => awf_of (round n T H h hw ht)

theorem over_empty (H : AHeap) : (AHeap.empty 0).over H = H := by
  refine AHeap.ext' rfl fun i => ?_
  show (match H.get i with | some x => some x | none => none) = H.get i
  cases H.get i <;> rfl

/-- A call without arguments that answers b over the empty heap does so over any heap. -/
theorem Does.closed {P : Program} {f : FuncId} {b : Bool} (h : Does P (fun _ => none) f [] (AHeap.empty 0) fun r _ => r = .bool b) (H : AHeap) : Does P (fun _ => none) f [] H fun r H' => r = .bool b ∧ H' = H := by
  refine ⟨fun E w vs hR hG hv => ?_⟩
  have hR' : Rel E ((AHeap.empty 0).over H) w := by rw [over_empty]; exact hR
  have ha : Rel (E.aside H w 0) (AHeap.empty 0) w := Rel.aside hR' (fun _ _ _ => Nat.zero_le _) (fun i x hi => by simp [AHeap.empty] at hi) (fun i x hi => by simp [AHeap.empty] at hi)
  cases hv
  refine (h.run _ w [] ha (fun _ _ h => by simp at h) .nil).mono ?_
  rintro v w' ⟨r, H', E', rfl, hx, hvr, hR2⟩
  cases hvr
  refine ⟨.bool b, H, E, ⟨rfl, rfl⟩, Ext.refl E, .bool b, ?_⟩
  refine ⟨hR2.os.trans hx.os, hR2.out.trans hx.out, fun B o hB => hR2.K _ _ (hx.K B o hB), fun B o hB => ?_, hR.KF, hR.dom, fun i x hi => ?_, hR.inj⟩
  · refine hR2.F _ _ ?_
    rw [hx.F]
    simp only [Env.aside, hB]
  · obtain ⟨p, ob, g1, g2, g3, g4, g5⟩ := hR.live i x hi
    refine ⟨p, ob, g1, g2, g3, hR2.F _ _ ?_, g5⟩
    rw [hx.F]
    simp only [Env.aside, g3]
    rw [if_pos ⟨i, x, p, hi, g1, rfl⟩]
    exact g4
end Go.Abs

/-
  Functions of Go's library on strings, walked: TrimLeft, IndexByte, Contains, slices.Contains.
-/


namespace Go.Proofs.YthoaeogblnnhbaaDoor
open Go Go.Abs Go.Lex
set_option linter.unusedSimpArgs false
variable {G : Nat → Option AV}

@[simp] theorem take_ascii (l : List UInt8) : List.take 256 (asciiCells l) = asciiCells l := by rw [List.take_of_length_le]; simp

@[simp] theorem zeroSet : azero Tryd.prog 63 = some (.agg (asciiCells [])) := by kernel_rfl

@[simp] theorem drop_ascii (l : List UInt8) : List.drop 256 (asciiCells l) = [] := by rw [List.drop_of_length_le]; simp
@[simp] theorem ascii_scalar (l : List UInt8) : (∀ x ∈ asciiCells l, x.scalar = true) = True := by
  simp only [eq_iff_iff, iff_true]
  intro x hx
  simp only [asciiCells, List.mem_map] at hx
  obtain ⟨k, _, rfl⟩ := hx
  rfl
theorem ascii_splice (l : List UInt8) (c : UInt8) : List.take c.toNat (asciiCells l) ++ AV.bool true :: List.drop (c.toNat + 1) (asciiCells l) = asciiCells (l ++ [c]) := by
  have hc := c.toNat_lt
  rw [← asciiCells_set, List.set_eq_take_append_cons_drop, if_pos (by rw [asciiCells_length]; omega)]

theorem makeSet (chars : List UInt8) (hc : ∀ b ∈ chars, b.toNat < 128) (hl : chars.length ≤ 1000000) (H : AHeap) : Does Tryd.prog G 35 [.str chars] H fun r H' => r = .tuple [.agg (asciiCells chars), .bool true] ∧ H' = H.push (.cells (asciiCells chars)) := by
  refine does_f Tryd.call35 Tryd.func35 rfl (by simp [Tryd.f35]) ?_
  simp
  refine aws_loop (fun m T' H' => ∃ a b, chars = a ++ b ∧ m = b.length ∧ T' 0 = .str chars ∧ T' 2 = .ptr H.next 0 ∧ T' 4 = .int .i64 a.length ∧ H' = H.push (.cells (asciiCells a))) chars.length ⟨[], chars, rfl, rfl, by simp⟩ ?_
  rintro m T H' ⟨a, b, rfl, rfl, h0, h2, h4, rfl⟩
  cases b with
  | nil => simp [h0, h2, h4]
  | cons c b =>
    have hlt : (a.length : Int) < a.length + (b.length + 1) := by omega
    have hc1 : c.toNat < 128 := hc c (by simp)
    have hc2 : ¬ (128 : Int) ≤ c.toNat := by omega
    have hc3 : (c.toNat : Int) < 256 := by omega
    have hc4 : c.toNat ≤ 255 := by omega
    have hw : IntKind.i64.wrap ((a.length : Int) + 1) = a.length + 1 := by
      simp only [List.length_append, List.length_cons] at hl
      exact IntWalk.i64_in _ (by omega)
    simp [h0, h2, h4, hlt, hc2, hc3, hc4, ascii_splice, hw]
    refine ⟨b.length, by omega, a ++ [c], b, by simp, rfl, ?_⟩
    simp

theorem trimASCII (s set : List UInt8) (p : UInt8 → Bool) (hp : ∀ b, set.contains b = p b) (i : Nat) (H : AHeap) (h : H.get i = some (.cells (asciiCells set))) : Does Tryd.prog G 36 [.str s, .ptr i 0] H fun r H' => r = .str (s.dropWhile p) ∧ H' = H := by
  refine does_f Tryd.call36 Tryd.func36 rfl (by simp [Tryd.f36]) ?_
  simp
  refine aws_loop (fun m T' H' => ∃ q : List UInt8, s.dropWhile p = q.dropWhile p ∧ m = q.length ∧ T' 0 = .str q ∧ T' 1 = .ptr i 0 ∧ H' = H) s.length ⟨s, rfl, rfl, by simp⟩ ?_
  rintro m T H' ⟨q, hq, rfl, h0, h1, rfl⟩
  rw [hq]
  cases q with
  | nil => simp [h0, h1]
  | cons b q =>
    have hl : (0 : Int) < q.length + 1 := by omega
    have hl2 : (1 : Int) ≤ q.length + 1 := by omega
    simp [h0, h1, hl]
    refine does_use (asciiContains H' i _ b _ h (by simp) (asciiCells_get set b)) ?_
    rintro _ _ ⟨rfl, rfl⟩
    rw [hp]
    cases hb : p b with
    | true =>
      simp [h0, h1, hb, hl, hl2]
    | false => simp [h0, h1, hb]

theorem trimLeft (s set : List UInt8) (p : UInt8 → Bool) (hp : ∀ b, set.contains b = p b) (hc : ∀ b ∈ set, b.toNat < 128) (hl : set.length ≤ 1000000) (h2 : 2 ≤ set.length) (H : AHeap) : Does Tryd.prog G 29 [.str s, .str set] H fun r H' => r = .str (s.dropWhile p) ∧ H' = H := by
  refine Does.forgot (R := fun r H' => r = .str (s.dropWhile p) ∧ ∀ j x, H.get j = some x → H'.get j = some x) ?_ ?_
  · refine Does.wf Tryd.call29 fun hw _ => ?_
    have old : ∀ j x, H.get j = some x → j ≠ H.next ∧ j ≠ H.next + 1 := fun j x hj => by have := next_lt hw hj; omega
    refine does_f Tryd.call29 Tryd.func29 rfl (by simp [Tryd.f29]) ?_
    have hne : set ≠ [] := fun e => by subst e; simp at h2
    have hn1 : ¬ (set.length : Int) = 1 := by omega
    cases hs : s with
    | nil => simp
    | cons b q =>
      rw [← hs]
      have hs1 : s.isEmpty = false := by rw [hs]; rfl
      have hs2 : set.isEmpty = false := by cases set <;> simp_all
      simp [hs1, hs2, hn1]
      refine does_use (makeSet set hc hl H) ?_
      rintro _ _ ⟨rfl, rfl⟩
      simp
      refine does_use (trimASCII s set p hp _ _ (by simp)) ?_
      rintro _ _ ⟨rfl, rfl⟩
      simp
      intro j x hj
      simp [hj, old j x hj]
  · rintro hw ha r H1 ⟨rfl, h⟩
    exact ⟨h, rfl, rfl, rfl⟩

/-- IndexByteString, the model's own. -/
theorem isIdx : IsIdx Tryd.prog 38 := ⟨⟨Tryd.f38, Tryd.func38, by kernel_rfl, by kernel_rfl, by kernel_rfl, by kernel_rfl⟩⟩

/-- Where a byte stands first; -1: nowhere. -/
def idxB (s : List UInt8) (c : UInt8) : Int := match s.findIdx? (fun b => b == c) with
  | some i => i
  | none => -1

theorem idxB_eq (c : UInt8) : ∀ s : List UInt8, Go.Lib.indexByte s c = idxB s c
  | [] => rfl
  | b :: s => by
    rw [indexByte_cases, idxB_eq c s]
    unfold idxB
    rw [List.findIdx?_cons]
    by_cases h : b = c
    · subst h; simp
    · simp only [h, if_false, beq_iff_eq]
      cases hf : List.findIdx? (fun b => b == c) s with
      | none => simp
      | some i =>
        simp only [Option.map_some]
        rw [if_neg (by omega)]
        omega

theorem indexByteL (s : List UInt8) (c : UInt8) (H : AHeap) : Does Tryd.prog G 31 [.str s, .int .u8 c.toNat] H fun r H' => r = .int .i64 (idxB s c) ∧ H' = H := by
  refine does_f Tryd.call31 Tryd.func31 rfl (by simp [Tryd.f31]) ?_
  simp
  refine does_use (idx_does isIdx s c.toNat H) ?_
  rintro _ _ ⟨rfl, rfl⟩
  have e : ((c.toNat : Int).toNat).toUInt8 = c := by simp
  rw [e, idxB_eq]
  simp

theorem indexByte (s : List UInt8) (c : UInt8) (H : AHeap) : Does Tryd.prog G 24 [.str s, .int .u8 c.toNat] H fun r H' => r = .int .i64 (idxB s c) ∧ H' = H := by
  refine does_f Tryd.call24 Tryd.func24 rfl (by simp [Tryd.f24]) ?_
  simp
  refine does_use (indexByteL s c H) ?_
  rintro _ _ ⟨rfl, rfl⟩
  simp

theorem index1L (s : List UInt8) (c : UInt8) (H : AHeap) : Does Tryd.prog G 39 [.str s, .str [c]] H fun r H' => r = .int .i64 (idxB s c) ∧ H' = H := by
  refine does_f Tryd.call39 Tryd.func39 rfl (by simp [Tryd.f39]) ?_
  by_cases h : [c] = s
  · subst h
    simp [idxB]
  · have h1 : ([c] == s) = false := by simpa using h
    simp [h1]
    refine does_use (indexByteL s c H) ?_
    rintro _ _ ⟨rfl, rfl⟩
    simp

theorem contains1 (s : List UInt8) (c : UInt8) (H : AHeap) : Does Tryd.prog G 25 [.str s, .str [c]] H fun r H' => r = .bool (s.contains c) ∧ H' = H := by
  have hk : ∀ H : AHeap, Does Tryd.prog G 32 [.str s, .str [c]] H fun r H' => r = .int .i64 (idxB s c) ∧ H' = H := by
    intro H
    refine does_f Tryd.call32 Tryd.func32 rfl (by simp [Tryd.f32]) ?_
    simp
    refine does_use (index1L s c H) ?_
    rintro _ _ ⟨rfl, rfl⟩
    simp
  refine does_f Tryd.call25 Tryd.func25 rfl (by simp [Tryd.f25]) ?_
  simp
  refine does_use (hk H) ?_
  rintro _ _ ⟨rfl, rfl⟩
  simp
  unfold idxB
  cases hf : s.findIdx? (fun b => b == c) with
  | none =>
    rw [List.findIdx?_eq_none_iff] at hf
    have : c ∉ s := fun h => by have := hf c h; simp at this
    simp [this]
  | some i =>
    have h := List.findIdx?_eq_some_iff_getElem.1 hf
    obtain ⟨hi, h1, _⟩ := h
    have : c ∈ s := by
      have e : s[i] = c := by simpa using h1
      rw [← e]; exact List.getElem_mem hi
    simp [this]
end Go.Proofs.YthoaeogblnnhbaaDoor

/-
  Words: slices.Contains over strings; while, Kept, sign, between.
-/

namespace Go.Proofs.YthoaeogblnnhbaaDoor
open Go Go.Abs Go.Lex
set_option linter.unusedSimpArgs false
variable {G : Nat → Option AV}

theorem sliceIndex (l : List Bs) (s : Bs) (i c : Nat) (op : Bool) (H : AHeap) (hi : H.get i = some (.cells (l.map .str))) (hl : l.length ≤ 1000000) :
    Does Tryd.prog G 28 [.sl i 0 1 l.length c op, .str s] H fun r H' => (if l.contains s then ∃ k : Nat, r = .int .i64 k else r = .int .i64 (-1)) ∧ H' = H := by
  refine does_f Tryd.call28 Tryd.func28 rfl (by simp [Tryd.f28]) ?_
  simp
  refine aws_loop (fun m T' H' => ∃ a b, l = a ++ b ∧ m = b.length ∧ s ∉ a ∧ T' 0 = .sl i 0 1 l.length c op ∧ T' 1 = .str s ∧ T' 7 = .int .i64 l.length ∧ T' 8 = .int .i64 a.length ∧ H' = H) l.length ⟨[], l, rfl, rfl, by simp, by simp⟩ ?_
  rintro m T H' ⟨a, b, rfl, rfl, hn, h0, h1, h7, h8, rfl⟩
  simp only [List.length_append] at hl h0 h7
  cases b with
  | nil => simp [h0, h1, h7, h8, hn]
  | cons t b =>
    simp only [List.length_cons] at hl
    have hlt : (a.length : Int) < a.length + (b.length + 1) := by omega
    have hle : a.length ≤ a.length + (b.length + 1) := by omega
    have hw : IntKind.i64.wrap ((a.length : Int) + 1) = a.length + 1 := IntWalk.i64_in _ (by omega)
    have hd : List.drop a.length (List.map AV.str a) = [] := by rw [List.drop_of_length_le]; simp
    by_cases e : s = t
    · subst e
      simp [h0, h1, h7, h8, hi, hlt, hle, hw, hd]
      exact ⟨a.length, rfl⟩
    · have e1 : (s == t) = false := by simpa using e
      simp [h0, h1, h7, h8, hi, hlt, hle, hw, hd, e1]
      exact ⟨b.length, by omega, a ++ [t], b, by simp, rfl, by simp [hn, e], by simp⟩

theorem sliceContains (l : List Bs) (s : Bs) (i c : Nat) (op : Bool) (H : AHeap) (hi : H.get i = some (.cells (l.map .str))) (hl : l.length ≤ 1000000) :
    Does Tryd.prog G 21 [.sl i 0 1 l.length c op, .str s] H fun r H' => r = .bool (l.contains s) ∧ H' = H := by
  refine does_f Tryd.call21 Tryd.func21 rfl (by simp [Tryd.f21]) ?_
  simp
  refine does_use (sliceIndex l s i c op H hi hl) ?_
  rintro r _ ⟨hr, rfl⟩
  cases hc : l.contains s with
  | true =>
    rw [hc, if_pos rfl] at hr
    obtain ⟨k, rfl⟩ := hr
    simp
  | false =>
    rw [hc] at hr
    simp only [Bool.false_eq_true, if_false] at hr
    subst hr
    simp

set_option maxRecDepth 100000 in
theorem kept_does (s : Bs) (H : AHeap) : Does Tryd.prog G 12 [.str s] H fun r H' => r = .bool (kept s) ∧ H' = H := by
  refine Does.forgot (R := fun r H' => r = .bool (kept s) ∧ ∀ j x, H.get j = some x → H'.get j = some x) ?_ ?_
  · refine Does.wf Tryd.call12 fun hw _ => ?_
    have old : ∀ j x, H.get j = some x → j ≠ H.next := fun j x hj => by have := next_lt hw hj; omega
    refine does_f Tryd.call12 Tryd.func12 rfl (by simp [Tryd.f12]) ?_
    simp
    refine does_use (sliceContains keptWords s H.next 21 false (H.push (.cells (keptWords.map .str))) (by simp) (by decide)) ?_
    rintro _ _ ⟨rfl, rfl⟩
    simp [kept]
    intro j x hj
    simp [hj, old j x hj]
  · rintro hw ha r H1 ⟨rfl, h⟩
    exact ⟨h, rfl, rfl, rfl⟩

theorem while_does (s set : Bs) (p : UInt8 → Bool) (hp : ∀ b, set.contains b = p b) (hc : ∀ b ∈ set, b.toNat < 128) (hl : set.length ≤ 1000000) (h2 : 2 ≤ set.length) (hs : s.length ≤ 1000000) (H : AHeap) :
    Does Tryd.prog G 22 [.str s, .str set] H fun r H' => r = .int .i64 (s.takeWhile p).length ∧ H' = H := by
  refine does_f Tryd.call22 Tryd.func22 rfl (by simp [Tryd.f22]) ?_
  simp
  refine does_use (trimLeft s set p hp hc hl h2 H) ?_
  rintro _ _ ⟨rfl, rfl⟩
  have e : s.length = (s.takeWhile p).length + (s.dropWhile p).length := by rw [← List.length_append, List.takeWhile_append_dropWhile]
  have hw : IntKind.i64.wrap ((s.length : Int) - (s.dropWhile p).length) = (s.takeWhile p).length := by
    rw [IntWalk.i64_in _ (by omega)]; omega
  simp [hw]

set_option maxRecDepth 100000 in
theorem sign_does (s : Bs) (H : AHeap) : Does Tryd.prog G 27 [.str s] H fun r H' => (match signOf s with | some t => r = .tuple [.agg [.int .i64 4, .str t, .int .i64 0, .int .i64 0], .bool true] | none => r = .tuple [.agg [.int .i64 0, .str [], .int .i64 0, .int .i64 0], .bool false]) ∧ H' = H := by
  refine Does.forgot (R := fun r H' => (match signOf s with | some t => r = .tuple [.agg [.int .i64 4, .str t, .int .i64 0, .int .i64 0], .bool true] | none => r = .tuple [.agg [.int .i64 0, .str [], .int .i64 0, .int .i64 0], .bool false]) ∧ ∀ j x, H.get j = some x → H'.get j = some x) ?_ ?_
  · refine Does.wf Tryd.call27 fun hw _ => ?_
    have old : ∀ j x, H.get j = some x → j ≠ H.next ∧ j ≠ H.next + 1 := fun j x hj => by have := next_lt hw hj; omega
    have hkeep : ∀ x y, ∀ j z, H.get j = some z → ((H.push x).push y).get j = some z := fun x y j z hj => by simp [hj, old j z hj]
    refine does_f Tryd.call27 Tryd.func27 rfl (by simp [Tryd.f27]) ?_
    simp
    refine aws_loop (fun m T' H' => ∃ a b, signs = a ++ b ∧ m = b.length ∧ a.find? (fun x => x.isPrefixOf s) = none ∧ T' 0 = .str s ∧ T' 2 = .ptr H.next 0 ∧ T' 6 = .sl (H.next + 1) 0 1 16 16 false ∧ T' 7 = .int .i64 16 ∧ T' 8 = .int .i64 a.length ∧ T' 3 = .bool false ∧
      H' = (H.push (.cells [.int .i64 0, .str [], .int .i64 0, .int .i64 0])).push (.cells (signs.map .str))) 16 ⟨[], signs, rfl, rfl, rfl, by simp [signs]⟩ ?_
    rintro m T H' ⟨a, b, hab, rfl, hn, h0, h2, h6, h7, h8, h3, rfl⟩
    have hlen : a.length + b.length = 16 := by rw [← List.length_append, ← hab]; rfl
    cases b with
    | nil =>
      have ha : a.length = 16 := by simpa using hlen
      have hs : signOf s = none := by
        unfold signOf
        rw [hab, List.append_nil]; exact hn
      simp [h0, h2, h6, h7, h8, ha, hs]
      intro j x hj
      simp [hj, old j x hj]
    | cons t b =>
      simp only [List.length_cons] at hlen
      have hlt : (a.length : Int) < 16 := by omega
      have hlt2 : a.length ≤ 16 := by omega
      have hlt3 : a.length < 16 := by omega
      have hw1 : IntKind.i64.wrap ((a.length : Int) + 1) = a.length + 1 := IntWalk.i64_in _ (by omega)
      have hd : List.drop a.length (List.map AV.str signs) = .str t :: b.map .str := by
        rw [hab, List.map_append, List.drop_left' (by simp)]; rfl
      have hsl : signs.length = 16 := rfl
      simp [h0, h2, h6, h7, h8, hlt, hlt2, hlt3, hd, hsl]
      refine does_use (hasPrefix s t _) ?_
      rintro _ _ ⟨rfl, rfl⟩
      cases hp : t.isPrefixOf s with
      | true =>
        have hs : signOf s = some t := by
          unfold signOf
          rw [hab, List.find?_append, hn]
          simp [hp]
        simp [h0, h2, h6, h7, h8, hs]
        intro j x hj
        simp [hj, old j x hj]
      | false =>
        simp [h0, h2, h6, h7, h8, hw1]
        refine ⟨b.length, by omega, a ++ [t], b, by simp [hab], rfl, ?_, ?_⟩
        · rw [List.find?_eq_none] at hn
          intro x hx
          simp only [List.mem_append, List.mem_singleton] at hx
          rcases hx with hx | rfl
          · have := hn x hx
            rw [← List.isPrefixOf_iff_prefix]; simpa using this
          · rw [← List.isPrefixOf_iff_prefix, hp]; simp
        · simp [h3]
  · rintro hw ha r H1 ⟨hr, h⟩
    refine ⟨h, ?_, hr, rfl⟩
    cases hs : signOf s <;> rw [hs] at hr <;> subst hr <;> rfl
end Go.Proofs.YthoaeogblnnhbaaDoor

/-
  Words: between.
-/

namespace Go.Proofs.YthoaeogblnnhbaaDoor
open Go Go.Abs Go.Lex
set_option linter.unusedSimpArgs false
variable {G : Nat → Option AV}

theorem drop_takeWhile (p : UInt8 → Bool) : ∀ s : Bs, s.drop (s.takeWhile p).length = s.dropWhile p
  | [] => rfl
  | b :: s => by
    rw [List.takeWhile_cons, List.dropWhile_cons]
    split
    · simpa using drop_takeWhile p s
    · rfl

theorem betw_line (s q : Bs) (h : s.dropWhile isBlank = 45 :: 45 :: q) : betw s = betw (q.dropWhile fun b => b != 10) := by
  rw [betw]
  split
  · rename_i q' h'
    rw [h] at h'
    simp only [List.cons.injEq, true_and] at h'
    rw [h']
  · rename_i h'
    exact absurd h (h' q)
theorem betw_word (s : Bs) (h : ([45, 45] : Bs).isPrefixOf (s.dropWhile isBlank) = false) : betw s = s.dropWhile isBlank := by
  rw [betw]
  split
  · rename_i q hq
    rw [hq] at h
    simp [List.isPrefixOf] at h
  · rfl
theorem betw_nil : betw [] = [] := betw_word [] rfl
@[simp] theorem take_drop_all {α : Type} (l : List α) (n : Nat) : List.take (l.length - n) (l.drop n) = l.drop n := by rw [List.take_of_length_le]; simp

theorem idxB_none {s : Bs} {c : UInt8} (h : s.findIdx? (fun b => b == c) = none) : s.dropWhile (fun b => b != c) = [] := by
  rw [List.findIdx?_eq_none_iff] at h
  induction s with
  | nil => rfl
  | cons b s ih =>
    rw [List.dropWhile_cons]
    have := h b (by simp)
    have e : (b != c) = true := by simp only [bne, this]; rfl
    rw [if_pos e]
    exact ih fun x hx => h x (by simp [hx])

theorem idxB_some {s : Bs} {c : UInt8} {i : Nat} (h : s.findIdx? (fun b => b == c) = some i) : s.dropWhile (fun b => b != c) = s.drop i ∧ i < s.length := by
  induction s generalizing i with
  | nil => simp at h
  | cons b s ih =>
    rw [List.findIdx?_cons] at h
    rw [List.dropWhile_cons]
    by_cases e : b = c
    · subst e
      simp at h
      subst h
      simp
    · have e1 : (b == c) = false := by simpa using e
      have e2 : (b != c) = true := by simp [bne, e1]
      rw [e1] at h
      simp only [Bool.false_eq_true, if_false, Option.map_eq_some_iff] at h
      obtain ⟨j, hj, rfl⟩ := h
      obtain ⟨h1, h2⟩ := ih hj
      rw [if_pos e2]
      exact ⟨by simpa using h1, by simp; omega⟩

theorem blankSet (b : UInt8) : ([32, 9, 10, 13] : Bs).contains b = isBlank b := by
  rw [Bool.eq_iff_iff]
  simp [isBlank, or_assoc]

theorem between_does (s : Bs) (hl : s.length ≤ 1000000) (H : AHeap) : Does Tryd.prog G 15 [.str s] H fun r H' => (∃ n : Nat, r = .int .i64 n ∧ n ≤ s.length ∧ s.drop n = betw s) ∧ H' = H := by
  refine does_f Tryd.call15 Tryd.func15 rfl (by simp [Tryd.f15]) ?_
  simp
  refine aws_loop (fun m T' H' => ∃ n : Nat, n ≤ s.length ∧ m = s.length - n ∧ betw (s.drop n) = betw s ∧ T' 0 = .str s ∧ T' 3 = .int .i64 n ∧ H' = H) s.length ⟨0, by omega, by omega, rfl, by simp⟩ ?_
  rintro m T H' ⟨n, hn, rfl, hb, h0, h3, rfl⟩
  have hn1 : (n : Int) ≤ s.length := by omega
  simp [h0, h3, hn, hn1]
  have hdl : (s.drop n).length = s.length - n := by simp
  refine does_use (while_does (s.drop n) _ isBlank blankSet (by decide) (by decide) (by decide) (by omega) _) ?_
  rintro _ _ ⟨rfl, rfl⟩
  have htl : ((s.drop n).takeWhile isBlank).length ≤ s.length - n := by
    rw [← hdl]; exact (List.takeWhile_prefix isBlank).length_le
  have hdd : s.drop (n + ((s.drop n).takeWhile isBlank).length) = (s.drop n).dropWhile isBlank := by
    rw [← List.drop_drop, drop_takeWhile]
  obtain ⟨k, hk⟩ : ∃ k, k = ((s.drop n).takeWhile isBlank).length := ⟨_, rfl⟩
  rw [← hk] at htl hdd ⊢
  obtain ⟨j, hj⟩ : ∃ j, j = n + k := ⟨_, rfl⟩
  have hw1 : IntKind.i64.wrap ((n : Int) + k) = (j : Int) := by rw [IntWalk.i64_in _ (by omega)]; omega
  have hk1 : (j : Int) ≤ s.length := by omega
  have hk2 : j ≤ s.length := by omega
  rw [← hj] at hdd
  simp [h0, h3, hw1, hk1, hk2]
  refine does_use (hasPrefix (s.drop j) [45, 45] _) ?_
  rintro _ _ ⟨rfl, rfl⟩
  cases hp : ([45, 45] : Bs).isPrefixOf (s.drop j) with
  | false =>
    simp [h0, h3]
    refine ⟨j, rfl, hk2, ?_⟩
    rw [← hb, betw_word _ (by rw [← hdd]; exact hp), hdd]
  | true =>
    simp [h0, h3, hk1, hk2]
    refine does_use (indexByte (s.drop j) 10 _) ?_
    rintro _ _ ⟨rfl, rfl⟩
    obtain ⟨q, hq⟩ : ∃ q, s.drop j = 45 :: 45 :: q := by
      rw [List.isPrefixOf_iff_prefix] at hp
      obtain ⟨t, ht⟩ := hp
      exact ⟨t, ht.symm⟩
    have hbq : betw s = betw ((s.drop j).dropWhile fun b => b != 10) := by
      rw [← hb, betw_line _ q (by rw [← hdd]; exact hq), hq]
      rfl
    unfold idxB
    cases hf : (s.drop j).findIdx? (fun b => b == 10) with
    | none =>
      simp [h0, h3]
      refine ⟨s.length, rfl, Nat.le_refl _, ?_⟩
      rw [hbq, idxB_none hf, betw_nil]; simp
    | some i =>
      obtain ⟨g1, g2⟩ := idxB_some hf
      have g3 : ¬ ((i : Int) < 0) := by omega
      have hi2 : 2 ≤ i := by
        rw [hq] at hf
        rw [List.findIdx?_cons, List.findIdx?_cons] at hf
        simp at hf
        omega
      simp only [List.length_drop] at g2
      have hw2 : IntKind.i64.wrap ((j : Int) + i) = ((j + i : Nat) : Int) := by rw [IntWalk.i64_in _ (by omega)]; omega
      simp [h0, h3, g3, hw2]
      refine ⟨s.length - (j + i), by omega, j + i, by omega, rfl, ?_, by omega⟩
      rw [hbq, g1, List.drop_drop]
end Go.Proofs.YthoaeogblnnhbaaDoor

/-
  strconv.ParseInt at a row of digits.
-/

namespace Go.Proofs.YthoaeogblnnhbaaDoor
open Go Go.Abs Go.Lex
set_option linter.unusedSimpArgs false
variable {G : Nat → Option AV}

theorem numVal_snoc (s : Bs) (b : UInt8) : numVal (s ++ [b]) = 10 * numVal s + (b.toNat - 48) := by simp [numVal]
theorem numVal_ge (a : Bs) : ∀ b : Bs, numVal a ≤ numVal (a ++ b) := by
  intro b
  induction b generalizing a with
  | nil => simp
  | cons c b ih =>
    have := ih (a ++ [c])
    rw [numVal_snoc, List.append_assoc] at this
    simp only [List.singleton_append] at this
    omega

theorem strCs_append' (a b : Bs) : strCs (a ++ b) = strCs a ++ strCs b := by simp [strCs]

theorem wrap_u64 (n : Int) (h0 : 0 ≤ n) (h1 : n < 18446744073709551616) : IntKind.u64.wrap n = n := by
  unfold IntKind.wrap
  simp only [IntKind.signed, IntKind.bits, Bool.false_and, Bool.false_eq_true, if_false]
  exact Int.emod_eq_of_lt h0 (by omega)
theorem wrap_u64' (n : Int) (h0 : 18446744073709551616 ≤ n) (h1 : n < 36893488147419103232) : IntKind.u64.wrap n = n - 18446744073709551616 := by
  unfold IntKind.wrap
  simp only [IntKind.signed, IntKind.bits, Bool.false_and, Bool.false_eq_true, if_false]
  omega
theorem wrap_u8 (n : Int) (h0 : 0 ≤ n) (h1 : n < 256) : IntKind.u8.wrap n = n := by
  unfold IntKind.wrap
  simp only [IntKind.signed, IntKind.bits, Bool.false_and, Bool.false_eq_true, if_false]
  exact Int.emod_eq_of_lt h0 (by omega)

@[simp] theorem concErr : Tryd.prog.concrete 74 = true := by kernel_rfl
@[simp] theorem concNum : Tryd.prog.concrete 77 = true := by kernel_rfl

/-- The answer of ParseUint. -/
def uintOf (s : Bs) : AV := if numVal s < 18446744073709551616 then .tuple [.int .u64 (numVal s), .niliface] else .tuple [.int .u64 18446744073709551615, .iface 74 (.int .i64 1)]

set_option maxRecDepth 100000 in
theorem parseUint (s : Bs) (hd : ∀ b ∈ s, isDigit b = true) (hs : s ≠ []) (hl : s.length ≤ 1000000) (H : AHeap) :
    Does Tryd.prog G 48 [.str s, .int .i64 10, .int .i64 64] H fun r H' => r = uintOf s ∧ H' = H := by
  refine Does.forgot (R := fun r H' => r = uintOf s ∧ ∀ j x, H.get j = some x → H'.get j = some x) ?_ ?_
  · refine Does.wf Tryd.call48 fun hw _ => ?_
    have old : ∀ j x, H.get j = some x → j ≠ H.next := fun j x hj => by have := next_lt hw hj; omega
    refine does_f Tryd.call48 Tryd.func48 rfl (by simp [Tryd.f48]) ?_
    have hs1 : s.isEmpty = false := by cases s <;> simp_all
    have e1 : IntKind.u64.wrap 64 = 64 := by decide
    have e2 : IntKind.u64.wrap (2 ^ min 64 IntKind.u64.bits) = 0 := by decide
    have e3 : IntKind.u64.wrap (-1) = 18446744073709551615 := by decide
    simp [hs1, e1, e2, e3]
    refine aws_loop (fun m T' H' => ∃ a b, s = a ++ b ∧ m = b.length ∧ numVal a < 18446744073709551616 ∧ T' 1 = .int .i64 10 ∧ T' 8 = .bool false ∧ T' 10 = .int .u64 1844674407370955162 ∧ T' 11 = .int .u64 18446744073709551615 ∧ T' 12 = .bool false ∧ T' 13 = .int .u64 (numVal a) ∧
      T' 99 = .sl H.next 0 1 s.length s.length true ∧ T' 100 = .int .i64 s.length ∧ T' 101 = .int .i64 a.length ∧ H' = H.push (.cells (strCs s))) s.length ⟨[], s, rfl, rfl, by decide, by simp [numVal, strCs]⟩ ?_
    rintro m T H' ⟨a, b, rfl, rfl, hv, h1, h8, h10, h11, h12, h13, h99, h100, h101, rfl⟩
    simp only [List.length_append] at hl h99 h100
    cases b with
    | nil =>
      simp [h1, h8, h10, h11, h12, h13, h99, h100, h101]
      refine ⟨?_, ?_⟩
      · simp [uintOf, hv]
      · intro j x hj
        simp [hj, old j x hj]
    | cons c b =>
      simp only [List.length_cons] at hl
      have hc := hd c (by simp)
      simp only [isDigit, Bool.and_eq_true, decide_eq_true_eq] at hc
      obtain ⟨hc1, hc2⟩ := hc
      obtain ⟨d, hdd⟩ : ∃ d, d = c.toNat - 48 := ⟨_, rfl⟩
      have hlt : (a.length : Int) < a.length + (b.length + 1) := by omega
      have hle : a.length ≤ a.length + (b.length + 1) := by omega
      have hw1 : IntKind.i64.wrap ((a.length : Int) + 1) = a.length + 1 := IntWalk.i64_in _ (by omega)
      have hdr : List.drop a.length (strCs (a ++ c :: b)) = .int .u8 c.toNat :: strCs b := by
        rw [strCs_append', List.drop_left' (by simp [strCs])]; rfl
      have hsl : (strCs (a ++ c :: b)).length = a.length + (b.length + 1) := by simp [strCs]
      have n1 : ¬ (c.toNat : Int) = 95 := by omega
      have n2 : (48 : Int) ≤ c.toNat := by omega
      have n3 : (c.toNat : Int) ≤ 57 := by omega
      have n4 : IntKind.u8.wrap ((c.toNat : Int) - 48) = d := by rw [wrap_u8 _ (by omega) (by omega)]; omega
      have n5 : IntKind.u8.wrap 10 = 10 := by decide
      have n6 : ¬ (10 : Int) ≤ d := by omega
      have n7 : IntKind.u64.wrap 10 = 10 := by decide
      have n8 : IntKind.u64.wrap (d : Int) = d := wrap_u64 _ (by omega) (by omega)
      have hn : numVal (a ++ [c]) = 10 * numVal a + d := by rw [numVal_snoc]; omega
      have hge := numVal_ge (a ++ [c]) b
      rw [List.append_assoc, List.singleton_append] at hge
      obtain ⟨v, hvv⟩ : ∃ v, v = numVal a := ⟨_, rfl⟩
      rw [← hvv] at hv h13 hn
      by_cases g1 : 1844674407370955162 ≤ v
      · have g1' : (1844674407370955162 : Int) ≤ v := by omega
        have hbig : ¬ numVal (a ++ c :: b) < 18446744073709551616 := by omega
        simp [h1, h8, h10, h11, h12, h13, h99, h100, h101, hlt, hle, hdr, hsl, n1, n2, n3, n4, n5, n6, n7, n8, g1']
        refine ⟨?_, ?_⟩
        · unfold uintOf; rw [if_neg hbig]
        · intro j x hj
          simp [hj, old j x hj]
      · have g1' : ¬ (1844674407370955162 : Int) ≤ v := by omega
        have m1 : IntKind.u64.wrap ((v : Int) * 10) = v * 10 := wrap_u64 _ (by omega) (by omega)
        by_cases g2 : 10 * v + d < 18446744073709551616
        · have m2 : IntKind.u64.wrap ((v : Int) * 10 + d) = v * 10 + d := wrap_u64 _ (by omega) (by omega)
          have m3 : ¬ ((v : Int) * 10 + d < v * 10) := by omega
          have m4 : ¬ ((18446744073709551615 : Int) < v * 10 + d) := by omega
          simp [h1, h8, h10, h11, h12, h13, h99, h100, h101, hlt, hle, hdr, hsl, n1, n2, n3, n4, n5, n6, n7, n8, g1', m1, m2, m3, m4, hw1]
          refine ⟨b.length, by omega, a ++ [c], b, by simp, rfl, by omega, ?_⟩
          simp [hn]
          omega
        · have m2 : IntKind.u64.wrap ((v : Int) * 10 + d) = v * 10 + d - 18446744073709551616 := wrap_u64' _ (by omega) (by omega)
          have m3 : ((v : Int) * 10 + d - 18446744073709551616 < v * 10) := by omega
          have hbig : ¬ numVal (a ++ c :: b) < 18446744073709551616 := by omega
          simp [h1, h8, h10, h11, h12, h13, h99, h100, h101, hlt, hle, hdr, hsl, n1, n2, n3, n4, n5, n6, n7, n8, g1', m1, m2, m3]
          refine ⟨?_, ?_⟩
          · unfold uintOf; rw [if_neg hbig]
          · intro j x hj
            simp [hj, old j x hj]
  · rintro hw ha r H1 ⟨rfl, h⟩
    refine ⟨h, ?_, rfl, rfl⟩
    unfold uintOf; split <;> rfl
end Go.Proofs.YthoaeogblnnhbaaDoor

/-
  strconv.ParseInt at a row of digits; a number's word.
-/




namespace Go.Proofs.YthoaeogblnnhbaaDoor
open Go Go.Abs Go.Lex
set_option linter.unusedSimpArgs false
variable {G : Nat → Option AV}

theorem wrap_i64 (n : Int) (h0 : 0 ≤ n) (h1 : n < 9223372036854775808) : IntKind.i64.wrap n = n := IntWalk.i64_in _ (by omega)

/-- The answer of ParseInt. -/
def intOf (s : Bs) : AV := if numVal s < 9223372036854775808 then .tuple [.int .i64 (numVal s), .niliface] else .tuple [.int .i64 9223372036854775807, .iface 74 (.int .i64 1)]

set_option maxRecDepth 100000 in
theorem parseInt (s : Bs) (hd : ∀ b ∈ s, isDigit b = true) (hs : s ≠ []) (hl : s.length ≤ 1000000) (H : AHeap) :
    Does Tryd.prog G 40 [.str s, .int .i64 10, .int .i64 64] H fun r H' => r = intOf s ∧ H' = H := by
  refine does_f Tryd.call40 Tryd.func40 rfl (by simp [Tryd.f40]) ?_
  cases s with
  | nil => exact absurd rfl hs
  | cons c q =>
    have hc := hd c (by simp)
    simp only [isDigit, Bool.and_eq_true, decide_eq_true_eq] at hc
    have n1 : ¬ (c.toNat : Int) = 43 := by omega
    have n2 : ¬ (c.toNat : Int) = 45 := by omega
    have m1 : (0 : Int) < q.length + 1 := by omega
    simp [n1, n2, m1]
    refine does_use (parseUint (c :: q) hd hs hl H) ?_
    rintro _ _ ⟨rfl, rfl⟩
    have e1 : IntKind.u64.wrap 63 = 63 := by decide
    have e2 : IntKind.u64.wrap (2 ^ min 63 IntKind.u64.bits) = 9223372036854775808 := by decide
    have e3 : IntKind.u64.wrap 9223372036854775807 = 9223372036854775807 := by decide
    have e4 : IntKind.i64.wrap 9223372036854775807 = 9223372036854775807 := by decide
    have e5 : IntKind.i64.wrap 63 = 63 := by decide
    have e6 : Tryd.t74.comparable = true := by kernel_rfl
    obtain ⟨v, hv⟩ : ∃ v, v = numVal (c :: q) := ⟨_, rfl⟩
    unfold uintOf intOf
    rw [← hv]
    by_cases g1 : v < 9223372036854775808
    · have g2 : v < 18446744073709551616 := by omega
      have g3 : ¬ (9223372036854775808 : Int) ≤ v := by omega
      have g4 : IntKind.i64.wrap (v : Int) = v := wrap_i64 _ (by omega) (by omega)
      rw [if_pos g2, if_pos g1]
      simp [e1, e2, e3, e4, e5, e6, g3, g4]
    · rw [if_neg g1]
      by_cases g2 : v < 18446744073709551616
      · have g3 : (9223372036854775808 : Int) ≤ v := by omega
        rw [if_pos g2]
        simp [e1, e2, e3, e4, e5, e6, g3]
      · rw [if_neg g2]
        simp [e1, e2, e3, e4, e5, e6]

theorem mixedOrders : Tryd.prog.follows .mixedOrders = true := by kernel_rfl

/-- The library's own error value is there. -/
def HasErr (G : Nat → Option AV) : Prop := ∃ t v, G 2 = some (.vptr [.iface t v])

set_option maxRecDepth 100000 in
theorem rangeError (s : Bs) (fn : Bs) (hl : s.length ≤ 1000000) (hG : HasErr G) (H : AHeap) : Does Tryd.prog G 50 [.str fn, .str s] H fun r H' => r = .ptr H.next 0 ∧ ∃ cs, H' = H.push (.cells cs) := by
  obtain ⟨et, ev, he⟩ := hG
  refine does_f Tryd.call50 Tryd.func50 rfl (by simp [Tryd.f50]) ?_
  simp
  refine aw_drawn [(3, 0), (3, 3)] ?_ ?_ ?_
  · exact mixedOrders
  · kernel_rfl
  intro es hes
  simp
  refine ⟨_, _, copy_does isCopy s (by omega) H, by simp, ?_⟩
  simp [he, rds, heapF]
  refine ⟨?_, _, rfl⟩
  subst hes
  exact ⟨by kernel_rfl, by kernel_rfl⟩

set_option maxRecDepth 100000 in
theorem toError (s : Bs) (fn : Bs) (hl : s.length ≤ 1000000) (hG : HasErr G) (H : AHeap) : Does Tryd.prog G 41 [.str fn, .str s, .int .i64 10, .int .i64 64, .iface 74 (.int .i64 1)] H fun r H' => r = .iface 77 (.ptr H.next 0) ∧ ∃ cs, H' = H.push (.cells cs) := by
  have e6 : Tryd.t74.comparable = true := by kernel_rfl
  refine does_f Tryd.call41 Tryd.func41 rfl (by simp [Tryd.f41]) ?_
  simp [e6]
  refine does_use (rangeError s fn hl hG H) ?_
  rintro _ _ ⟨rfl, cs, rfl⟩
  simp
  exact ⟨cs, rfl⟩

set_option maxRecDepth 100000 in
theorem parseInt' (s : Bs) (hd : ∀ b ∈ s, isDigit b = true) (hs : s ≠ []) (hl : s.length ≤ 1000000) (hG : HasErr G) (H : AHeap) :
    Does Tryd.prog G 33 [.str s, .int .i64 10, .int .i64 64] H fun r H' => (if numVal s < 9223372036854775808 then r = .tuple [.int .i64 (numVal s), .niliface] ∧ H' = H else r = .tuple [.int .i64 9223372036854775807, .iface 77 (.ptr H.next 0)] ∧ ∃ cs, H' = H.push (.cells cs)) := by
  refine does_f Tryd.call33 Tryd.func33 rfl (by simp [Tryd.f33]) ?_
  simp
  refine does_use (parseInt s hd hs hl H) ?_
  rintro _ _ ⟨rfl, rfl⟩
  unfold intOf
  by_cases h : numVal s < 9223372036854775808
  · rw [if_pos h]
    simp [h]
  · rw [if_neg h]
    simp [h]
    refine does_use (toError s _ hl hG _) ?_
    rintro _ _ ⟨rfl, cs, rfl⟩
    simp
    exact ⟨by omega, cs, rfl⟩

/-- What a row of digits gives. -/
def numN (s : Bs) : Int := if numVal s < 9223372036854775808 then numVal s else 9223372036854775807
def numOk (s : Bs) : Bool := decide (numVal s < 9223372036854775808) && (decide (s.length = 1) || decide (s.head? ≠ some 48))

set_option maxRecDepth 100000 in
theorem number_does (s : Bs) (hd : ∀ b ∈ s, isDigit b = true) (hs : s ≠ []) (hl : s.length ≤ 1000000) (hG : HasErr G) (H : AHeap) :
    Does Tryd.prog G 26 [.str s] H fun r H' => r = .tuple [.agg [.int .i64 3, .str s, .int .i64 (numN s), .int .i64 0], .bool (numOk s)] ∧ H' = H := by
  refine Does.forgot (R := fun r H' => r = .tuple [.agg [.int .i64 3, .str s, .int .i64 (numN s), .int .i64 0], .bool (numOk s)] ∧ ∀ j x, H.get j = some x → H'.get j = some x) ?_ ?_
  · refine Does.wf Tryd.call26 fun hw _ => ?_
    have old : ∀ j x, H.get j = some x → j ≠ H.next ∧ j ≠ H.next + 1 := fun j x hj => by have := next_lt hw hj; omega
    refine does_f Tryd.call26 Tryd.func26 rfl (by simp [Tryd.f26]) ?_
    simp
    refine does_use (parseInt' s hd hs hl hG _) ?_
    rintro r H1 hr
    obtain ⟨c, q, rfl⟩ : ∃ c q, s = c :: q := by
      cases s with
      | nil => exact absurd rfl hs
      | cons c q => exact ⟨c, q, rfl⟩
    have h0 : (0 : Int) < q.length + 1 := by omega
    have hg : (if numVal (c :: q) < 9223372036854775808 then r = .tuple [.int .i64 (numVal (c :: q)), .niliface] else ∃ i, r = .tuple [.int .i64 9223372036854775807, .iface 77 (.ptr i 0)]) ∧ H1.get H.next = some (.cells [.int .i64 0, .str [], .int .i64 0, .int .i64 0]) ∧ ∀ j x, H.get j = some x → H1.get j = some x := by
      by_cases h : numVal (c :: q) < 9223372036854775808
      · rw [if_pos h] at hr ⊢
        obtain ⟨rfl, rfl⟩ := hr
        exact ⟨rfl, by simp, fun j x hj => by simp [hj, old j x hj]⟩
      · rw [if_neg h] at hr ⊢
        obtain ⟨rfl, cs, rfl⟩ := hr
        exact ⟨⟨_, rfl⟩, by simp, fun j x hj => by simp [hj, old j x hj]⟩
    clear hr
    obtain ⟨hr, hf, hk⟩ := hg
    have fin : ∀ j x, H.get j = some x → ∀ cs, (H1.set H.next (.cells cs)).get j = some x := fun j x hj cs => by
      simp only [AHeap.get_set]
      rw [if_neg (old j x hj).1]; exact hk j x hj
    by_cases h : numVal (c :: q) < 9223372036854775808
    · rw [if_pos h] at hr
      subst hr
      simp
      refine aw_drawn [] mixedOrders (by kernel_rfl) ?_
      intro es hes
      by_cases hq : q = []
      · subst hq
        simp [hf, rds]
        refine ⟨?_, ?_, fun j x hj => ?_⟩
        · subst hes
          exact ⟨by kernel_rfl, by kernel_rfl⟩
        · simp [numN, numOk, h]
        · simp [old j x hj, hk j x hj]
      · have hq0 : q.length ≠ 0 := by simpa using hq
        have hq1 : ¬ ((q.length : Int) + 1 = 1) := by omega
        have hq2 : ((c.toNat : Int) = 48) ↔ c = 48 := by
          constructor
          · intro e
            have e1 : c.toNat = (48 : UInt8).toNat := by simpa using (by omega : c.toNat = 48)
            exact UInt8.toNat_inj.1 e1
          · rintro rfl; rfl
        simp [hf, rds, hq, hq1, h0]
        refine ⟨?_, ?_, fun j x hj => ?_⟩
        · subst hes
          exact ⟨by kernel_rfl, by kernel_rfl⟩
        · have hq3 : ((c.toNat : Int) != 48) = !decide (c = 48) := by
            rw [Bool.eq_iff_iff]
            simp [hq2]
          simp [numN, numOk, h, hq, hq3]
        · simp [old j x hj, hk j x hj]
    · rw [if_neg h] at hr
      obtain ⟨i, rfl⟩ := hr
      simp
      refine aw_drawn [] mixedOrders (by kernel_rfl) ?_
      intro es hes
      simp [hf, rds]
      refine ⟨?_, ?_, fun j x hj => ?_⟩
      · subst hes
        exact ⟨by kernel_rfl, by kernel_rfl⟩
      · simp [numN, numOk, h]
      · simp [old j x hj, hk j x hj]
  · rintro hw ha r H1 ⟨rfl, h⟩
    exact ⟨h, rfl, rfl, rfl⟩
end Go.Proofs.YthoaeogblnnhbaaDoor

/-
  Words: the word that a text begins with.
-/

namespace Go.Proofs.YthoaeogblnnhbaaDoor
open Go Go.Abs Go.Lex
set_option linter.unusedSimpArgs false
variable {G : Nat → Option AV}

def lettersL : Bs := [97,98,99,100,101,102,103,104,105,106,107,108,109,110,111,112,113,114,115,116,117,118,119,120,121,122]
def digitsL : Bs := [48,49,50,51,52,53,54,55,56,57]
def namesL : Bs := [97,98,99,100,101,102,103,104,105,106,107,108,109,110,111,112,113,114,115,116,117,118,119,120,121,122,48,49,50,51,52,53,54,55,56,57,95]

theorem byAll (p q : UInt8 → Bool) (h : ∀ n : Fin 256, p (UInt8.ofNat n.val) = q (UInt8.ofNat n.val)) (b : UInt8) : p b = q b := by
  have := h ⟨b.toNat, b.toNat_lt⟩
  simpa using this
theorem letters_eq (b : UInt8) : lettersL.contains b = isLetter b := byAll _ _ (by decide +kernel) b
theorem digits_eq (b : UInt8) : digitsL.contains b = isDigit b := byAll _ _ (by decide +kernel) b
theorem names_eq (b : UInt8) : namesL.contains b = isNamec b := byAll _ _ (by decide +kernel) b

theorem take_takeWhile (p : UInt8 → Bool) (s : Bs) : s.take (s.takeWhile p).length = s.takeWhile p := by
  have := List.takeWhile_prefix p (l := s)
  rw [List.prefix_iff_eq_take] at this
  exact this.symm

/-- A word's cells. -/
def wdCells (w : Wd) (i : Nat) : List AV := [.int .i64 w.kind, .str w.text, .int .i64 w.n, .int .i64 i]

def WordIs (s : Bs) (r : AV) : Prop := match wordS s with
  | some w => r = .tuple [.agg (wdCells w 0), .bool true]
  | none => ∃ k t n, r = .tuple [.agg [.int .i64 k, .str t, .int .i64 n, .int .i64 0], .bool false]

set_option maxRecDepth 100000 in
theorem word_does (c : UInt8) (q : Bs) (hl : (c :: q).length ≤ 1000000) (hG : HasErr G) (H : AHeap) : Does Tryd.prog G 16 [.str (c :: q)] H fun r H' => WordIs (c :: q) r ∧ H' = H := by
  refine Does.forgot (R := fun r H' => WordIs (c :: q) r ∧ ∀ j x, H.get j = some x → H'.get j = some x) ?_ ?_
  · refine Does.wf Tryd.call16 fun hw _ => ?_
    have old : ∀ j x, H.get j = some x → j ≠ H.next ∧ j ≠ H.next + 1 := fun j x hj => by have := next_lt hw hj; omega
    refine does_f Tryd.call16 Tryd.func16 rfl (by simp [Tryd.f16]) ?_
    have m1 : (1 : Int) ≤ q.length + 1 := by omega
    simp [m1]
    refine does_use (contains1 lettersL c _) ?_
    rintro _ _ ⟨rfl, rfl⟩
    rw [letters_eq]
    cases hL : isLetter c with
    | true =>
      simp
      refine does_use (while_does (c :: q) namesL isNamec names_eq (by decide) (by decide) (by decide) hl _) ?_
      rintro _ _ ⟨rfl, rfl⟩
      have ht := take_takeWhile isNamec (c :: q)
      have hle : ((c :: q).takeWhile isNamec).length ≤ (c :: q).length := (List.takeWhile_prefix isNamec).length_le
      obtain ⟨t, htt⟩ : ∃ t, t = (c :: q).takeWhile isNamec := ⟨_, rfl⟩
      rw [← htt] at ht hle ⊢
      simp only [List.length_cons] at hle
      have hle' : (t.length : Int) ≤ q.length + 1 := by omega
      simp [hle, hle', ht]
      refine does_use (kept_does t _) ?_
      rintro _ _ ⟨rfl, rfl⟩
      cases hk : kept t with
      | true =>
        simp
        refine ⟨?_, ?_⟩
        · simp [WordIs, wordS, hL, ← htt, hk, wdCells]
        · intro j x hj
          simp [hj, old j x hj]
      | false =>
        simp
        refine ⟨?_, ?_⟩
        · by_cases h24 : t.length ≤ 24
          · have : (t.length : Int) ≤ 24 := by omega
            simp [WordIs, wordS, hL, ← htt, hk, wdCells, h24, this]
          · have : ¬ (t.length : Int) ≤ 24 := by omega
            simp [WordIs, wordS, hL, ← htt, hk, wdCells, h24, this]
        · intro j x hj
          simp [hj, old j x hj]
    | false =>
      simp
      refine does_use (contains1 digitsL c _) ?_
      rintro _ _ ⟨rfl, rfl⟩
      rw [digits_eq]
      cases hD : isDigit c with
      | true =>
        simp
        refine does_use (while_does (c :: q) digitsL isDigit digits_eq (by decide) (by decide) (by decide) hl _) ?_
        rintro _ _ ⟨rfl, rfl⟩
        have ht := take_takeWhile isDigit (c :: q)
        have hle : ((c :: q).takeWhile isDigit).length ≤ (c :: q).length := (List.takeWhile_prefix isDigit).length_le
        have hall : ∀ b ∈ (c :: q).takeWhile isDigit, isDigit b = true := fun b hb => List.all_eq_true.1 (List.all_takeWhile) b hb
        have hcons : (c :: q).takeWhile isDigit = c :: q.takeWhile isDigit := by rw [List.takeWhile_cons, if_pos hD]
        obtain ⟨t, htt⟩ : ∃ t, t = (c :: q).takeWhile isDigit := ⟨_, rfl⟩
        rw [← htt] at ht hle hall hcons ⊢
        simp only [List.length_cons] at hle hl
        have hle' : (t.length : Int) ≤ q.length + 1 := by omega
        simp [hle, hle', ht]
        refine does_use (number_does t hall (by rw [hcons]; simp) (by omega) hG _) ?_
        rintro _ _ ⟨rfl, rfl⟩
        simp
        refine ⟨?_, ?_⟩
        · have hh : t.head? = some c := by rw [hcons]; rfl
          unfold WordIs wordS numOk numN
          simp only [hL, hD, ← htt, hh]
          by_cases g1 : numVal t < 9223372036854775808
          · by_cases g2 : t.length = 1 ∨ c ≠ 48
            · rcases g2 with g2 | g2 <;> simp [g1, g2, wdCells]
            · simp only [not_or] at g2
              simp [g1, g2.1, Decidable.not_not.1 g2.2]
          · simp [g1]
        · intro j x hj
          simp [hj, old j x hj]
      | false =>
        simp
        refine does_use (sign_does (c :: q) _) ?_
        rintro r _ ⟨hr, rfl⟩
        cases hs : signOf (c :: q) with
        | some t =>
          rw [hs] at hr
          simp only at hr
          subst hr
          simp
          refine ⟨?_, ?_⟩
          · simp [WordIs, wordS, hL, hD, hs, wdCells]
          · intro j x hj
            simp [hj, old j x hj]
        | none =>
          rw [hs] at hr
          simp only at hr
          subst hr
          simp
          refine ⟨?_, ?_⟩
          · simp [WordIs, wordS, hL, hD, hs, wdCells]
          · intro j x hj
            simp [hj, old j x hj]
  · rintro hw ha r H1 ⟨hr, h⟩
    refine ⟨h, ?_, hr, rfl⟩
    unfold WordIs at hr
    split at hr
    · subst hr; rfl
    · obtain ⟨k, t, n, rfl⟩ := hr; rfl
end Go.Proofs.YthoaeogblnnhbaaDoor

/-
  Words: a text cut.
-/


namespace Go.Proofs.YthoaeogblnnhbaaDoor
open Go Go.Abs Go.Lex
set_option linter.unusedSimpArgs false
variable {G : Nat → Option AV}

def flatW : List (Nat × Wd) → List AV
  | [] => []
  | (i, w) :: l => wdCells w i ++ flatW l
theorem flatW_append (a b : List (Nat × Wd)) : flatW (a ++ b) = flatW a ++ flatW b := by
  induction a with
  | nil => rfl
  | cons x a ih => obtain ⟨i, w⟩ := x; simp [flatW, ih]
@[simp] theorem wdCells_length (w : Wd) (i : Nat) : (wdCells w i).length = 4 := rfl
@[simp] theorem flatW_length (l : List (Nat × Wd)) : (flatW l).length = l.length * 4 := by
  induction l with
  | nil => rfl
  | cons x l ih => obtain ⟨i, w⟩ := x; simp [flatW, ih]; omega
theorem flatW_scalar (l : List (Nat × Wd)) : ∀ x ∈ flatW l, x.scalar = true := by
  induction l with
  | nil => simp [flatW]
  | cons y l ih =>
    obtain ⟨i, w⟩ := y
    intro x hx
    simp only [flatW, wdCells, List.cons_append, List.nil_append, List.mem_cons] at hx
    rcases hx with rfl | rfl | rfl | rfl | hx
    · rfl
    · rfl
    · rfl
    · rfl
    · exact ih x hx

/-- Cut's answer. -/
def cutAns (t : Bs) : AV := if 16384 < t.length then .tuple [.nilsl, .agg [.int .i64 2, .int .i64 t.length]] else match cutS t.length t with
  | .ok l => .tuple [.vsl (flatW l ++ [.int .i64 0, .str [], .int .i64 0, .int .i64 t.length]) (l.length + 1), .agg [.int .i64 0, .int .i64 0]]
  | .error e => .tuple [.nilsl, .agg [.int .i64 7, .int .i64 e]]

/-- The words so far: where they lie. -/
def Wrds (H : AHeap) (lo : Nat) (x : AV) (ws : List (Nat × Wd)) : Prop := (x = .nilsl ∧ ws = []) ∨ ∃ b, x = .sl b 0 4 ws.length ws.length true ∧ lo ≤ b ∧ H.get b = some (.cells (flatW ws))

def CutR (H : AHeap) (t : Bs) (r : AV) (H1 : AHeap) : Prop := (∀ j x, H.get j = some x → H1.get j = some x) ∧
  (if 16384 < t.length then r = .tuple [.nilsl, .agg [.int .i64 2, .int .i64 t.length]] else match cutS t.length t with
  | .ok l => ∃ b, H.next ≤ b ∧ r = .tuple [.sl b 0 4 (l.length + 1) (l.length + 1) true, .agg [.int .i64 0, .int .i64 0]] ∧ H1.get b = some (.cells (flatW l ++ [.int .i64 0, .str [], .int .i64 0, .int .i64 t.length]))
  | .error e => r = .tuple [.nilsl, .agg [.int .i64 7, .int .i64 e]])

theorem CutR.okEnd {H : AHeap} {t : Bs} {ws : List (Nat × Wd)} {H2 : AHeap} {b : Nat} (hL : ¬ 16384 < t.length) (hc : cutS t.length t = .ok ws) (hb : H.next ≤ b)
    (hg : H2.get b = some (.cells (flatW ws ++ [.int .i64 0, .str [], .int .i64 0, .int .i64 t.length]))) (hk : ∀ j x, H.get j = some x → H2.get j = some x) :
    CutR H t (.tuple [.sl b 0 4 (ws.length + 1) (ws.length + 1) true, .agg [.int .i64 0, .int .i64 0]]) H2 := by
  refine ⟨hk, ?_⟩
  rw [if_neg hL, hc]
  exact ⟨b, hb, rfl, hg⟩
theorem CutR.badEnd {H : AHeap} {t : Bs} {e : Nat} {H2 : AHeap} (hL : ¬ 16384 < t.length) (hc : cutS t.length t = .error e) (hk : ∀ j x, H.get j = some x → H2.get j = some x) :
    CutR H t (.tuple [.nilsl, .agg [.int .i64 7, .int .i64 e]]) H2 := by
  refine ⟨hk, ?_⟩
  rw [if_neg hL, hc]

set_option maxRecDepth 100000 in
theorem cut_live (t : Bs) (hG : HasErr G) (H : AHeap) (hbig : t.length < 9223372036854775808) : Does Tryd.prog G 9 [.str t] H (CutR H t) := by
  refine Does.wf Tryd.call9 fun hw _ => ?_
  have old : ∀ j x, H.get j = some x → j < H.next := fun j x hj => next_lt hw hj
  refine does_f Tryd.call9 Tryd.func9 rfl (by simp [Tryd.f9]) ?_
  by_cases hL : 16384 < t.length
  · have hL' : (16384 : Int) < t.length := by omega
    simp [hL']
    refine ⟨fun j x hj => ?_, by simp [hL]⟩
    have := old j x hj
    have h1 : j ≠ H.next := by omega
    simp [hj, h1]
  · have hL' : ¬ (16384 : Int) < t.length := by omega
    simp [hL']
    refine does_use (between_does t (by omega) _) ?_
    rintro _ _ ⟨⟨n, rfl, hn, hbn⟩, rfl⟩
    simp
    refine aws_loopw (fun m T' H' => ∃ (ws : List (Nat × Wd)) (rest : Bs) (n : Nat), cutS t.length t = aheadW ws (cutS t.length rest) ∧ n ≤ t.length ∧ t.drop n = betw rest ∧ m = t.length - n ∧ ws.length ≤ n ∧
      T' 0 = .str t ∧ T' 3 = .ptr H.next 0 ∧ T' 5 = .int .i64 n ∧ Wrds H' (H.next + 1) (T' 4) ws ∧ H'.get H.next = some (.cells [.int .i64 0, .int .i64 0]) ∧ (∀ j x, H.get j = some x → H'.get j = some x)) (t.length - n) ?_ ?_
    · refine ⟨[], t, n, ?_, hn, hbn, rfl, by simp, by simp, by simp, by simp, .inl ⟨by simp, rfl⟩, by simp, fun j x hj => ?_⟩
      · cases cutS t.length t <;> rfl
      · have := old j x hj
        have h1 : j ≠ H.next := by omega
        simp [hj, h1]
    rintro m T H1 ⟨ws, rest, n, hcut, hn, hbn, rfl, hws, h0, h3, h5, h4, hf, hkeep⟩ hw1 _
    have oldn : ∀ j x, H1.get j = some x → j < H1.next := fun j x hj => next_lt hw1 hj
    have hfn := oldn _ _ hf
    have hne : H.next ≠ H1.next := by omega
    have hne2 : H.next ≠ H1.next + 1 := by omega
    have hne3 : H.next ≠ H1.next + 1 + 1 := by omega
    have hgrow : ¬ (ws.length + 1 ≤ ws.length) := by omega
    have hws' : ws.length ≤ 16384 := by omega
    by_cases hend : n = t.length
    · subst hend
      have hnil : betw rest = [] := by rw [← hbn]; simp
      have hc : cutS t.length t = .ok ws := by rw [hcut, cutS_end hnil]; simp [aheadW]
      have hfin : ∀ j x, H.get j = some x → H1.get j = some x ∧ j ≠ H.next ∧ j ≠ H1.next ∧ j ≠ H1.next + 1 := fun j x hj => by
        have := old j x hj
        have := oldn j x (hkeep j x hj)
        exact ⟨hkeep j x hj, by omega, by omega, by omega⟩
      rcases h4 with ⟨h4, rfl⟩ | ⟨b, h4, hlo, hb⟩
      · simp [h0, h3, h4, h5, hf, hne, hne2, hne3]
        refine CutR.okEnd hL hc (by omega) (by simp [flatW, Ne.symm hne2]) fun j x hj => ?_
        obtain ⟨k1, k2, k3, k4⟩ := hfin j x hj
        simp [k1, k2, k3, k4]
      · have hbn' := oldn _ _ hb
        have hb1 : b ≠ H1.next := by omega
        have hb2 : H.next ≠ b := by omega
        have hl1 : (ws.length + 1) * 40 ≤ 140737488355328 := by omega
        have hl2 : ws.length ≤ 4611686018427387903 := by omega
        simp [h0, h3, h4, h5, hf, hne, hne2, hne3, hb, hb1, hb2, hgrow, hl1, hl2]
        have htk : List.take (ws.length * 4) (flatW ws) = flatW ws := by rw [List.take_of_length_le]; simp
        rw [htk]
        refine CutR.okEnd hL hc (by omega) (by simp [Ne.symm hne2]) fun j x hj => ?_
        obtain ⟨k1, k2, k3, k4⟩ := hfin j x hj
        have := old j x hj
        have k5 : j ≠ b := by omega
        simp [k1, k2, k3, k4, k5]
    · have hlt : (n : Int) < t.length := by omega
      have hn' : (n : Int) ≤ t.length := by omega
      obtain ⟨c, q, hcq⟩ : ∃ c q, t.drop n = c :: q := by
        cases h : t.drop n with
        | nil => rw [List.drop_eq_nil_iff] at h; omega
        | cons c q => exact ⟨c, q, rfl⟩
      have hlen : (c :: q).length = t.length - n := by rw [← hcq]; simp
      rw [hcq] at hbn
      have htk0 : List.take (t.length - n) (c :: q) = c :: q := by rw [List.take_of_length_le]; omega
      simp [h0, h3, h4, h5, hf, hlt, hn, hn', hcq, htk0]
      refine does_use (word_does c q (by omega) hG _) ?_
      rintro r H2 ⟨hr, e⟩
      subst e
      have hkeep2 : ∀ j x, H.get j = some x → H2.get j = some x ∧ j ≠ H.next ∧ j ≠ H2.next ∧ j ≠ H2.next + 1 ∧ j ≠ H2.next + 1 + 1 := fun j x hj => by
        have := old j x hj
        have := oldn j x (hkeep j x hj)
        exact ⟨hkeep j x hj, by omega, by omega, by omega, by omega⟩
      unfold WordIs at hr
      cases hwd : wordS (c :: q) with
      | none =>
        rw [hwd] at hr
        simp only at hr
        obtain ⟨k, tx, nn, rfl⟩ := hr
        have hc : cutS t.length t = .error n := by
          rw [hcut, cutS_bad hbn.symm hwd, hlen]
          simp only [aheadW]
          congr 1
          omega
        simp [h0, h3, h4, h5, hf, hne]
        refine CutR.badEnd hL hc fun j x hj => ?_
        obtain ⟨k1, k2, k3, k4, k5⟩ := hkeep2 j x hj
        simp [k1, k2, k3]
      | some w =>
        rw [hwd] at hr
        simp only at hr
        subst hr
        obtain ⟨hpre, htne⟩ := wordS_text hwd
        have hwl : w.text.length ≤ (c :: q).length := hpre.length_le
        have hwl0 : w.text.length ≠ 0 := by simpa using htne
        rw [hlen] at hwl
        have hw1 : IntKind.i64.wrap ((n : Int) + w.text.length) = ((n + w.text.length : Nat) : Int) := by rw [IntWalk.i64_in _ (by omega)]; omega
        have hn2 : ((n + w.text.length : Nat) : Int) ≤ t.length := by omega
        have hn3 : n + w.text.length ≤ t.length := by omega
        have hrest : t.drop (n + w.text.length) = (c :: q).drop w.text.length := by rw [← List.drop_drop, hcq]
        obtain ⟨n2, hn2'⟩ : ∃ n2, n2 = n + w.text.length := ⟨_, rfl⟩
        rw [← hn2'] at hw1 hn2 hn3 hrest
        have hcut2 : cutS t.length t = aheadW (ws ++ [(n, w)]) (cutS t.length (t.drop n2)) := by
          rw [hcut, cutS_word hbn.symm hwd, hrest, hlen]
          have e : t.length - (t.length - n) = n := by omega
          rw [e]
          cases cutS t.length ((c :: q).drop w.text.length) <;> simp [aheadW]
        rcases h4 with ⟨h4, rfl⟩ | ⟨b, h4, hlo, hb⟩
        · simp [h0, h3, h4, h5, hf, hne, hne2, hne3, wdCells, hw1, hn2, hn3]
          refine does_use (between_does (t.drop n2) (by simp; omega) _) ?_
          rintro _ _ ⟨⟨k, rfl, hk, hk2⟩, rfl⟩
          simp only [List.length_drop] at hk
          have hw2 : IntKind.i64.wrap ((n2 : Int) + k) = ((n2 + k : Nat) : Int) := by rw [IntWalk.i64_in _ (by omega)]; omega
          simp [h0, h3, h4, h5, hf, hne, hne2, hne3, hw2]
          refine ⟨t.length - (n2 + k), by omega, [(n, w)], t.drop n2, by simpa using hcut2, n2 + k, by omega, by rw [← List.drop_drop]; exact hk2, rfl, by simp; omega, by omega, .inr ⟨H2.next + 1 + 1, rfl, by omega, by simp [flatW, wdCells]⟩, fun j x hj => ?_⟩
          obtain ⟨k1, k2, k3, k4, k5⟩ := hkeep2 j x hj
          simp [k1, k3, k4, k5]
        · have hbn' := oldn _ _ hb
          have hb1 : b ≠ H2.next := by omega
          have hb2 : H.next ≠ b := by omega
          have hb3 : b ≠ H2.next + 1 := by omega
          have hl1 : (ws.length + 1) * 40 ≤ 140737488355328 := by omega
          have hl2 : ws.length ≤ 4611686018427387903 := by omega
          have hb4 : H2.next ≠ b := Ne.symm hb1
          have hb5 : H2.next ≠ H2.next + 1 + 1 := by omega
          have htk : List.take (ws.length * 4) (flatW ws) = flatW ws := by rw [List.take_of_length_le]; simp
          simp [h0, h3, h4, h5, hf, hne, hne2, hne3, wdCells, hw1, hn2, hn3, hb, hb1, hb2, hb3, hb4, hb5, hgrow, hl1, hl2, htk]
          refine does_use (between_does (t.drop n2) (by simp; omega) _) ?_
          rintro _ _ ⟨⟨k, rfl, hk, hk2⟩, rfl⟩
          simp only [List.length_drop] at hk
          have hw2 : IntKind.i64.wrap ((n2 : Int) + k) = ((n2 + k : Nat) : Int) := by rw [IntWalk.i64_in _ (by omega)]; omega
          simp [h0, h3, h4, h5, hf, hne, hne2, hne3, hw2]
          refine ⟨t.length - (n2 + k), by omega, ws ++ [(n, w)], t.drop n2, hcut2, n2 + k, by omega, by rw [← List.drop_drop]; exact hk2, rfl, by simp; omega, by omega, .inr ⟨H2.next + 1 + 1, by simp, by omega, by simp [flatW_append, flatW, wdCells]⟩, hb2, fun j x hj => ?_⟩
          obtain ⟨k1, k2, k3, k4, k5⟩ := hkeep2 j x hj
          have := old j x hj
          have k6 : j ≠ b := by omega
          simp [k1, k3, k4, k5, k6]

theorem flatW_lt (n : Nat) : ∀ l : List (Nat × Wd), AV.allLt n (flatW l) = true
  | [] => rfl
  | (i, w) :: l => by simp [flatW, wdCells, AV.allLt, AV.idLt, flatW_lt n l]
theorem allLt_app (n : Nat) (a b : List AV) : AV.allLt n (a ++ b) = (AV.allLt n a && AV.allLt n b) := AV.allLt_append a b
theorem frzs_flatW (i : Nat) (cs : List AV) : ∀ l : List (Nat × Wd), AV.frzs i cs (flatW l) = flatW l
  | [] => rfl
  | (j, w) :: l => by simp [flatW, wdCells, AV.frzs, AV.frz, frzs_flatW i cs l]

/-- Cut, its answer frozen. -/
theorem cut_does (t : Bs) (hG : HasErr G) (H : AHeap) (hbig : t.length < 9223372036854775808) : Does Tryd.prog G 9 [.str t] H fun r H' => r = cutAns t ∧ H' = H := by
  by_cases hL : 16384 < t.length
  · refine Does.forgot (cut_live t hG H hbig) ?_
    rintro hw ha r H1 ⟨hk, hr⟩
    rw [if_pos hL] at hr
    subst hr
    exact ⟨hk, rfl, by simp [cutAns, hL], rfl⟩
  · cases hc : cutS t.length t with
    | error e =>
      refine Does.forgot (cut_live t hG H hbig) ?_
      rintro hw ha r H1 ⟨hk, hr⟩
      rw [if_neg hL, hc] at hr
      simp only at hr
      subst hr
      exact ⟨hk, rfl, by simp [cutAns, hL, hc], rfl⟩
    | ok l =>
      refine Does.frozen (cut_live t hG H hbig) ?_
      rintro hw ha r H1 ⟨hk, hr⟩
      rw [if_neg hL, hc] at hr
      obtain ⟨b, hb, rfl, hg⟩ := hr
      refine ⟨b, _, hb, hg, hk, ?_, ?_, rfl⟩
      · simp [AV.frz, AV.frzs, AV.idLt, AV.allLt]
        rw [List.take_of_length_le (by simp; omega)]
        simp [allLt_app, flatW_lt, AV.allLt, AV.idLt]
      · simp [AV.frz, AV.frzs, cutAns, hL, hc]
        rw [List.take_of_length_le (by simp; omega)]
end Go.Proofs.YthoaeogblnnhbaaDoor

/-
  What the statements on words ask first of all (awake).
-/


namespace Go.Proofs.YthoaeogblnnhbaaDoor
open Go Go.Abs Go.Lex
set_option linter.unusedSimpArgs false
variable {G : Nat → Option AV}

def tA : Bs := [120, 32, 61, 32, 49, 32, 45, 62, 32, 121, 59]
theorem cutA : cutAns tA = .tuple [.vsl [.int .i64 1, .str [120], .int .i64 0, .int .i64 0, .int .i64 4, .str [61], .int .i64 0, .int .i64 2, .int .i64 3, .str [49], .int .i64 1, .int .i64 4, .int .i64 4, .str [45, 62], .int .i64 0, .int .i64 6, .int .i64 1, .str [121], .int .i64 0, .int .i64 9, .int .i64 4, .str [59], .int .i64 0, .int .i64 10, .int .i64 0, .str [], .int .i64 0, .int .i64 11] 7, .agg [.int .i64 0, .int .i64 0]] := by
  unfold cutAns
  rw [← cutF_eq tA.length 20 tA (by decide)]
  kernel_rfl
def tB : Bs := [32, 64]
theorem cutB : cutAns tB = .tuple [.nilsl, .agg [.int .i64 7, .int .i64 1]] := by
  unfold cutAns
  rw [← cutF_eq tB.length 20 tB (by decide)]
  kernel_rfl

set_option maxRecDepth 100000 in
theorem awake_does (hG : HasErr G) (H : AHeap) : Does Tryd.prog G 8 [] H fun r H' => r = .bool true ∧ H' = H := by
  refine Does.forgot (R := fun r H' => r = .bool true ∧ ∀ j x, H.get j = some x → H'.get j = some x) ?_ ?_
  · refine Does.wf Tryd.call8 fun hw _ => ?_
    have old : ∀ j x, H.get j = some x → j ≠ H.next ∧ j ≠ H.next + 1 := fun j x hj => by have := next_lt hw hj; omega
    refine does_f Tryd.call8 Tryd.func8 rfl (by simp [Tryd.f8]) ?_
    simp
    refine does_use (cut_does tA hG H (by decide)) ?_
    rintro _ _ ⟨rfl, rfl⟩
    rw [cutA]
    simp
    refine does_use (cut_does tB hG _ (by decide)) ?_
    rintro _ _ ⟨rfl, rfl⟩
    rw [cutB]
    simp
    refine does_use (kept_does [102, 98, 121] _) ?_
    rintro _ _ ⟨rfl, rfl⟩
    have k1 : kept [102, 98, 121] = true := by decide
    have k2 : kept [120] = false := by decide
    rw [k1]
    simp
    refine does_use (kept_does [120] _) ?_
    rintro _ _ ⟨rfl, rfl⟩
    rw [k2]
    simp
    intro j x hj
    simp [hj, old j x hj]
  · rintro hw ha r H1 ⟨rfl, h⟩
    exact ⟨h, rfl, rfl, rfl⟩
end Go.Proofs.YthoaeogblnnhbaaDoor

/-
  The library's error value is there; strings as arguments.
-/



namespace Go.Proofs.YthoaeogblnnhbaaDoor
open Go Go.Abs Go.Lex

def isErrCell : Option AV → Bool
  | some (.vptr [.iface _ _]) => true
  | _ => false
theorem errCell : isErrCell (Gof tab 2) = true := by kernel_rfl
theorem hasErr : HasErr (Gof tab) := by
  have h := errCell
  unfold isErrCell at h
  split at h
  · rename_i t v he; exact ⟨t, v, he⟩
  · simp at h

set_option maxRecDepth 100000 in
theorem shp_str' {n : Nat} {a : AV} (h : Shp Tryd.prog (n + 1) 9 [a]) : ∃ s, a = .str s ∧ s.length ≤ maxLen := by
  simp only [Shp, Tryd.underlying9] at h
  obtain ⟨s, h, hl⟩ := h
  simp only [List.cons.injEq, and_true] at h
  exact ⟨s, h, hl⟩
set_option maxRecDepth 100000 in
theorem shp_str {a : AV} (h : Shp Tryd.prog 8 9 [a]) : ∃ s, a = .str s ∧ s.length ≤ maxLen := shp_str' (n := 7) h
end Go.Proofs.YthoaeogblnnhbaaDoor

/-
  LexBetween: words written one behind the other with blanks, lines, remarks between are cut the same.
-/



namespace Go.Proofs.YthoaeogblnnhbaaDoor
open Go Go.Abs Go.Lex
set_option linter.unusedSimpArgs false
variable {G : Nat → Option AV}

theorem joinW_append (sep : Bs) : ∀ a b : List Wd, joinW sep (a ++ b) = joinW sep a ++ joinW sep b
  | [], b => rfl
  | w :: a, b => by simp [joinW, joinW_append sep a b]

theorem joinW_length (sep : Bs) : ∀ a : List Wd, (joinW sep a).length = (a.map fun w => w.text.length).sum + a.length * sep.length
  | [] => by simp [joinW]
  | w :: a => by
    simp only [joinW, List.length_append, joinW_length sep a, List.map_cons, List.sum_cons, List.length_cons, Nat.succ_mul]
    omega

theorem flatW_drop : ∀ (L : List (Nat × Wd)) (i : Nat) (p : Nat) (w : Wd), L[i]? = some (p, w) → (flatW L).drop (i * 4) = wdCells w p ++ flatW (L.drop (i + 1))
  | [], i, p, w, h => by simp at h
  | (a, b) :: L, 0, p, w, h => by
    simp only [List.getElem?_cons_zero, Option.some.injEq, Prod.mk.injEq] at h
    obtain ⟨rfl, rfl⟩ := h
    simp [flatW]
  | (a, b) :: L, i + 1, p, w, h => by
    have := flatW_drop L i p w (by simpa using h)
    rw [Nat.succ_mul]
    simp only [flatW, List.drop_succ_cons]
    rw [← this, Nat.add_comm (i * 4) 4, ← List.drop_drop]
    rw [List.drop_left' (by simp)]

theorem cutAns_cases (t : Bs) (ht : t.length ≤ 16384) : (∃ e : Nat, cutAns t = .tuple [.nilsl, .agg [.int .i64 7, .int .i64 e]] ∧ cutS t.length t = .error e) ∨ ∃ l, cutS t.length t = .ok l ∧ cutAns t = .tuple [.vsl (flatW (l ++ [(t.length, ⟨0, [], 0⟩)])) (l.length + 1), .agg [.int .i64 0, .int .i64 0]] := by
  unfold cutAns
  rw [if_neg (by omega)]
  cases h : cutS t.length t with
  | error e => exact .inl ⟨e, rfl, rfl⟩
  | ok l => exact .inr ⟨l, rfl, by simp [flatW_append, flatW, wdCells]⟩

theorem count_words : ∀ (l : List (Nat × Wd)), (∀ w ∈ l, Wok w.2) → l.length ≤ (l.map fun w => w.2.text.length).sum
  | [], _ => by simp
  | w :: l, h => by
    have h1 := count_words l fun x hx => h x (by simp [hx])
    have h2 : w.2.text.length ≠ 0 := by
      obtain ⟨s, hs⟩ := h w (by simp)
      simpa using (wordS_text hs).2
    simp only [List.length_cons, List.map_cons, List.sum_cons]
    omega

theorem join_take (sep : Bs) (W : List Wd) (i : Nat) (w : Wd) (h : W[i]? = some w) : (joinW sep (W.take i)).length + w.text.length + sep.length ≤ (joinW sep W).length ∧ i < W.length ∧ joinW sep (W.take (i + 1)) = joinW sep (W.take i) ++ w.text ++ sep := by
  have hi : i < W.length := by
    rcases Nat.lt_or_ge i W.length with g | g
    · exact g
    · rw [List.getElem?_eq_none g] at h; simp at h
  have e1 : W.take (i + 1) = W.take i ++ [w] := by
    rw [List.take_add_one, h]; rfl
  have e2 : joinW sep (W.take (i + 1)) = joinW sep (W.take i) ++ w.text ++ sep := by
    rw [e1, joinW_append]; simp [joinW]
  refine ⟨?_, hi, e2⟩
  have e3 : joinW sep W = joinW sep (W.take (i + 1)) ++ joinW sep (W.drop (i + 1)) := by
    rw [← joinW_append, List.take_append_drop]
  rw [e3, e2]
  simp only [List.length_append]
  omega

set_option maxRecDepth 100000 in
theorem between_run (hG : HasErr G) (H : AHeap) (t : Bs) (k : Int) : Does Tryd.prog G 5 [.str t, .int .i64 k] H fun r _ => r = .bool true := by
  refine does_f Tryd.call5 Tryd.func5 rfl (by simp [Tryd.f5]) ?_
  simp
  refine does_use (awake_does hG H) ?_
  rintro _ _ ⟨rfl, rfl⟩
  by_cases h1 : 800 < t.length
  · have h1' : (800 : Int) < t.length := by omega
    simp [h1']
  · have h1' : ¬ (800 : Int) < t.length := by omega
    simp [h1']
    refine does_use (cut_does t hG _ (by omega)) ?_
    rintro _ _ ⟨rfl, rfl⟩
    rcases cutAns_cases t (by omega) with ⟨e, hans, _⟩ | ⟨l, hcut, hans⟩
    · rw [hans]
      simp
    · obtain ⟨w1, w2, w3⟩ := cut_words (t.length + 1) t (by omega) l hcut
      rw [hans]
      obtain ⟨L, hL⟩ : ∃ L, L = l ++ [(t.length, (⟨0, [], 0⟩ : Wd))] := ⟨_, rfl⟩
      have hLl : L.length = l.length + 1 := by rw [hL]; simp
      rw [← hL, ← hLl]
      simp
      obtain ⟨j, hj4, hj⟩ : ∃ j : Nat, j < 4 ∧ IntKind.i64.wrap ↑((k % 2 ^ IntKind.i64.bits).toNat &&& 3 % 2 ^ IntKind.i64.bits) = j := by
        have h := Nat.lt_of_le_of_lt (Nat.and_le_right (n := (k % 2 ^ IntKind.i64.bits).toNat) (m := 3 % 2 ^ IntKind.i64.bits)) (show 3 % 2 ^ IntKind.i64.bits < 4 by decide)
        exact ⟨_, h, IntWalk.i64_in _ (by omega)⟩
      rw [hj]
      clear hj
      have hsum : ∀ sep : Bs, (joinW sep (L.map (·.2))).length ≤ 800 + 801 * sep.length := fun sep => by
        rw [joinW_length, hL]
        simp only [List.map_append, List.map_map, List.sum_append, List.length_append, List.length_map, List.map_cons, List.map_nil, List.sum_cons, List.sum_nil, List.length_singleton, List.length_cons, List.length_nil]
        have e : (l.map ((fun w : Wd => w.text.length) ∘ fun x => x.2)).sum = (l.map fun w => w.2.text.length).sum := rfl
        have e2 : l.length + 1 ≤ 801 := by
          have := count_words l w1
          omega
        have := Nat.mul_le_mul_right sep.length e2
        simp only [Nat.zero_add] at *
        omega
      have inv : ∃ sep, Sep sep ∧ sep.length ≤ 9 ∧ (j = 0 ∧ sep = [32] ∨ j = 1 ∧ sep = [9, 13, 10] ∨ j = 2 ∧ sep = [32, 45, 45, 32, 116, 104, 101, 110, 10] ∨ j = 3 ∧ sep = [10, 10]) := by
        obtain rfl | rfl | rfl | rfl : j = 0 ∨ j = 1 ∨ j = 2 ∨ j = 3 := by omega
        · exact ⟨_, sep1, by decide, .inl ⟨rfl, rfl⟩⟩
        · exact ⟨_, sep2, by decide, .inr (.inl ⟨rfl, rfl⟩)⟩
        · exact ⟨_, sep3, by decide, .inr (.inr (.inl ⟨rfl, rfl⟩))⟩
        · exact ⟨_, sep4, by decide, .inr (.inr (.inr ⟨rfl, rfl⟩))⟩
      obtain ⟨sep, hs, hs9, hsep⟩ := inv
      have hsm := hsum sep
      have hLL : L.length ≤ 801 := by have := count_words l w1; omega
      rcases hsep with ⟨rfl, hse⟩ | ⟨rfl, hse⟩ | ⟨rfl, hse⟩ | ⟨rfl, hse⟩ <;>
        (simp [← hse]
         refine aws_loop (fun m T' H' => ∃ i, m = L.length - i ∧ i ≤ L.length ∧ T' 5 = .vsl (flatW L) L.length ∧ T' 7 = .str sep ∧ T' 8 = .str (joinW sep ((L.map (·.2)).take i)) ∧ T' 9 = .int .i64 i) L.length ⟨0, by omega, by omega, by simp, by simp, by simp [joinW], by simp⟩ ?_
         clear hse)
      all_goals
        rintro m T H1 ⟨i, rfl, hi, t5, t7, t8, t9⟩
        by_cases hlt : i < L.length
        · have g1 : (i : Int) < L.length := by omega
          obtain ⟨⟨p, w⟩, hw⟩ : ∃ x, L[i]? = some x := ⟨_, List.getElem?_eq_getElem hlt⟩
          have hdr := flatW_drop L i p w hw
          have g2 : IntKind.i64.wrap ((i : Int) + 1) = i + 1 := IntWalk.i64_in _ (by omega)
          obtain ⟨u1, u2, u3⟩ := join_take sep (L.map (·.2)) i w (by simp [hw])
          have v1 : (joinW sep (List.take i (List.map (fun x => x.snd) L))).length + w.text.length ≤ 9223372036854775807 := by omega
          have v2 : (joinW sep (List.take i (List.map (fun x => x.snd) L))).length + w.text.length + sep.length ≤ 9223372036854775807 := by omega
          have v3 : (joinW sep (List.take i (List.map (fun x => x.snd) L))).length + (w.text.length + sep.length) ≤ 9223372036854775807 := by omega
          simp [t5, t7, t8, t9, g1, g2, hdr, wdCells, v1, v2, v3]
          exact ⟨L.length - (i + 1), by omega, i + 1, rfl, by omega, by rw [u3]; simp, rfl⟩
        · obtain rfl : i = L.length := by omega
          have hall : (L.map (·.2)).take L.length = L.map (·.2) := by rw [List.take_of_length_le]; simp
          rw [hall] at t8
          simp [t5, t7, t8, t9]
          obtain ⟨l', hc', hm⟩ := cut_join hs (joinW sep (L.map (·.2))).length (l.map (·.2)) (fun w hw => by
            obtain ⟨x, hx, rfl⟩ := List.mem_map.1 hw
            exact w1 x hx) sep (by
              obtain ⟨_, _, _, _, hx⟩ := hs
              have := hx []
              rw [List.append_nil] at this
              rw [this, betw_nil'])
          have hJ : joinW sep (L.map (·.2)) = joinW sep (l.map (·.2)) ++ sep := by
            rw [hL, List.map_append, joinW_append]; simp [joinW]
          rw [← hJ] at hc'
          have hans2 : cutAns (joinW sep (L.map (·.2))) = .tuple [.vsl (flatW (l' ++ [((joinW sep (L.map (·.2))).length, ⟨0, [], 0⟩)])) (l'.length + 1), .agg [.int .i64 0, .int .i64 0]] := by
            rcases cutAns_cases (joinW sep (L.map (·.2))) (by omega) with ⟨e, _, h⟩ | ⟨l2, h, h2⟩
            · rw [hc'] at h; simp at h
            · rw [hc'] at h; simp only [Except.ok.injEq] at h; subst h; exact h2
          obtain ⟨M, hM⟩ : ∃ M, M = l' ++ [((joinW sep (L.map (·.2))).length, (⟨0, [], 0⟩ : Wd))] := ⟨_, rfl⟩
          have hMl : M.length = l'.length + 1 := by rw [hM]; simp
          have hll : l'.length = l.length := by have := congrArg List.length hm; simpa using this
          have hML : M.length = L.length := by omega
          have hMm : M.map (·.2) = L.map (·.2) := by rw [hM, hL, List.map_append, List.map_append, hm]; rfl
          rw [← hM, ← hMl, hML] at hans2
          refine does_use (cut_does _ hG _ (by omega)) ?_
          rintro _ _ ⟨rfl, rfl⟩
          rw [hans2]
          simp [t5]
          refine aws_loop (fun m T' H' => ∃ i, m = L.length - i ∧ i ≤ L.length ∧ T' 5 = .vsl (flatW L) L.length ∧ T' 10 = .vsl (flatW M) L.length ∧ T' 12 = .int .i64 i) L.length ⟨0, by omega, by omega, by simp [t5], by simp, by simp⟩ ?_
          rintro m T2 H2 ⟨i, rfl, hi, r5, r10, r12⟩
          by_cases hlt : i < L.length
          · have g1 : (i : Int) < L.length := by omega
            obtain ⟨⟨p, w⟩, hw⟩ : ∃ x, L[i]? = some x := ⟨_, List.getElem?_eq_getElem hlt⟩
            obtain ⟨⟨p', w'⟩, hw'⟩ : ∃ x, M[i]? = some x := ⟨_, List.getElem?_eq_getElem (by omega)⟩
            have hww : w' = w := by
              have h1 : (M.map (·.2))[i]? = some w' := by simp [hw']
              have h2 : (L.map (·.2))[i]? = some w := by simp [hw]
              rw [hMm, h2] at h1
              simpa using h1.symm
            subst hww
            have hdr := flatW_drop L i p w' hw
            have hdr2 := flatW_drop M i p' w' hw'
            have g2 : IntKind.i64.wrap ((i : Int) + 1) = i + 1 := IntWalk.i64_in _ (by omega)
            simp [r5, r10, r12, g1]
            refine aw_drawn [(4, 0), (9, 0), (16, 0), (21, 0), (29, 0), (34, 0)] mixedOrders (by kernel_rfl) ?_
            intro es hes
            simp [r5, r10, r12, g1, hdr, hdr2, wdCells, rds, heapF]
            refine ⟨?_, ?_⟩
            · subst hes
              exact ⟨by kernel_rfl, by kernel_rfl⟩
            exact ⟨L.length - (i + 1), by omega, i + 1, rfl, by omega, g2⟩
          · obtain rfl : i = L.length := by omega
            simp [r5, r10, r12]
end Go.Proofs.YthoaeogblnnhbaaDoor

/-
  The second reader of texts (escapementref4): letter, digit, Kept, number.
-/

namespace Go.Proofs.YthoaeogblnnhbaaDoor
open Go Go.Abs Go.Lex
set_option linter.unusedSimpArgs false
variable {G : Nat → Option AV}

set_option maxRecDepth 100000 in
theorem letter_does (b : UInt8) (H : AHeap) : Does Tryd.prog G 17 [.int .u8 b.toNat] H fun r H' => r = .bool (isLetter b) ∧ H' = H := by
  refine does_f Tryd.call17 Tryd.func17 rfl (by simp [Tryd.f17]) ?_
  by_cases g1 : 97 ≤ b.toNat
  · have g1' : (97 : Int) ≤ b.toNat := by omega
    by_cases g2 : b.toNat ≤ 122
    · have g2' : (b.toNat : Int) ≤ 122 := by omega
      simp [g1', g2', isLetter, g1, g2]
    · have g2' : ¬ (b.toNat : Int) ≤ 122 := by omega
      simp [g1', g2', isLetter, g1, g2]
  · have g1' : ¬ (97 : Int) ≤ b.toNat := by omega
    simp [g1', isLetter, g1]

set_option maxRecDepth 100000 in
theorem digit_does (b : UInt8) (H : AHeap) : Does Tryd.prog G 18 [.int .u8 b.toNat] H fun r H' => r = .bool (isDigit b) ∧ H' = H := by
  refine does_f Tryd.call18 Tryd.func18 rfl (by simp [Tryd.f18]) ?_
  by_cases g1 : 48 ≤ b.toNat
  · have g1' : (48 : Int) ≤ b.toNat := by omega
    by_cases g2 : b.toNat ≤ 57
    · have g2' : (b.toNat : Int) ≤ 57 := by omega
      simp [g1', g2', isDigit, g1, g2]
    · have g2' : ¬ (b.toNat : Int) ≤ 57 := by omega
      simp [g1', g2', isDigit, g1, g2]
  · have g1' : ¬ (48 : Int) ≤ b.toNat := by omega
    simp [g1', isDigit, g1]

set_option maxRecDepth 100000 in
theorem rkept_does (s : Bs) (H : AHeap) : Does Tryd.prog G 13 [.str s] H fun r H' => r = .bool (kept s) ∧ H' = H := by
  refine Does.forgot (R := fun r H' => r = .bool (kept s) ∧ ∀ j x, H.get j = some x → H'.get j = some x) ?_ ?_
  · refine Does.wf Tryd.call13 fun hw _ => ?_
    have old : ∀ j x, H.get j = some x → j ≠ H.next := fun j x hj => by have := next_lt hw hj; omega
    refine does_f Tryd.call13 Tryd.func13 rfl (by simp [Tryd.f13]) ?_
    simp
    refine aws_loop (fun m T' H' => ∃ a b, keptWords = a ++ b ∧ m = b.length ∧ s ∉ a ∧ T' 0 = .str s ∧ T' 3 = .sl H.next 0 1 21 21 false ∧ T' 4 = .int .i64 a.length ∧ H' = H.push (.cells (keptWords.map .str))) 21 ⟨[], keptWords, rfl, rfl, by simp, by simp [keptWords]⟩ ?_
    rintro m T H' ⟨a, b, hab, rfl, hn, h0, h3, h4, rfl⟩
    have hlen : a.length + b.length = 21 := by rw [← List.length_append, ← hab]; rfl
    have hkl : keptWords.length = 21 := rfl
    cases b with
    | nil =>
      have ha : a.length = 21 := by simpa using hlen
      have hk : kept s = false := by
        unfold kept
        rw [hab, List.append_nil]
        simpa using hn
      simp [h0, h3, h4, ha, hk]
      intro j x hj
      simp [hj, old j x hj]
    | cons t b =>
      simp only [List.length_cons] at hlen
      have hlt : (a.length : Int) < 21 := by omega
      have hlt2 : a.length ≤ 21 := by omega
      have hlt3 : a.length < 21 := by omega
      have hw1 : IntKind.i64.wrap ((a.length : Int) + 1) = a.length + 1 := IntWalk.i64_in _ (by omega)
      have hd : List.drop a.length (List.map AV.str keptWords) = .str t :: b.map .str := by
        rw [hab, List.map_append, List.drop_left' (by simp)]; rfl
      by_cases e : t = s
      · subst e
        have hk : kept t = true := by
          unfold kept
          rw [hab]; simp
        simp [h0, h3, h4, hlt, hlt2, hlt3, hd, hkl, hk]
        intro j x hj
        simp [hj, old j x hj]
      · have e1 : (t == s) = false := by simpa using e
        simp [h0, h3, h4, hlt, hlt2, hlt3, hd, hkl, e1, hw1]
        exact ⟨b.length, by omega, a ++ [t], b, by simp [hab], rfl, by simp [hn]; exact fun h => e h.symm, by simp⟩
  · rintro hw ha r H1 ⟨rfl, h⟩
    exact ⟨h, rfl, rfl, rfl⟩
end Go.Proofs.YthoaeogblnnhbaaDoor

/-
  The second reader of texts (escapementref4): number.
-/

namespace Go.Proofs.YthoaeogblnnhbaaDoor
open Go Go.Abs Go.Lex
set_option linter.unusedSimpArgs false
variable {G : Nat → Option AV}

set_option maxRecDepth 100000 in
theorem rnumber_does (c : UInt8) (q : Bs) (hd : ∀ b ∈ c :: q, isDigit b = true) (hl : q.length ≤ 20000) (H : AHeap) : Does Tryd.prog G 19 [.str (c :: q)] H fun r H' => (∃ x : Int, r = .tuple [.int .i64 x, .bool (numOk (c :: q))] ∧ (numOk (c :: q) = true → x = numVal (c :: q))) ∧ H' = H := by
  refine does_f Tryd.call19 Tryd.func19 rfl (by simp [Tryd.f19]) ?_
  simp
  have k48 : ((c.toNat : Int) = 48) ↔ c = 48 := by
    constructor
    · intro e
      have e1 : c.toNat = (48 : UInt8).toNat := by simpa using (by omega : c.toNat = 48)
      exact UInt8.toNat_inj.1 e1
    · rintro rfl; rfl
  by_cases h0 : (1 : Int) < q.length + 1 ∧ (c.toNat : Int) = 48
  · obtain ⟨h1, h2⟩ := h0
    have hq0 : q ≠ [] := by rintro rfl; simp at h1
    have hno : numOk (c :: q) = false := by
      have := k48.1 h2
      simp [numOk, hq0, this]
    simp [h1, h2, hno]
  · have hpre : ∀ P : Prop, ((¬ (1 : Int) < q.length + 1 → P) → ((1 : Int) < q.length + 1 → ¬ (c.toNat : Int) = 48 → P) → P) := fun P f g => by
      by_cases h1 : (1 : Int) < q.length + 1
      · exact g h1 fun h2 => h0 ⟨h1, h2⟩
      · exact f h1
    by_cases h3 : (19 : Int) < q.length + 1
    · have h1 : (1 : Int) < q.length + 1 := by omega
      have h2 : ¬ (c.toNat : Int) = 48 := fun h2 => h0 ⟨h1, h2⟩
      have hc : c ≠ 48 := fun h => h2 (k48.2 h)
      have hbig := numVal_low c (hd c (by simp)) hc q fun b hb => hd b (by simp [hb])
      have hpow : 10 ^ 19 ≤ 10 ^ q.length := Nat.pow_le_pow_right (by omega) (by omega)
      have hno : numOk (c :: q) = false := by
        simp [numOk]; omega
      simp [h1, h2, h3, hno]
    · have hlow := numVal_high (c :: q) hd
      have hpow : 10 ^ (c :: q).length ≤ 10 ^ 19 := Nat.pow_le_pow_right (by omega) (by simp; omega)
      have hok : numOk (c :: q) = decide (numVal (c :: q) < 9223372036854775808) := by
        by_cases hq : q = []
        · simp [numOk, hq]
        · have hq1 : (1 : Int) < q.length + 1 := by
            have : q.length ≠ 0 := by simpa using hq
            omega
          have hc : c ≠ 48 := fun h => h0 ⟨hq1, k48.2 h⟩
          simp [numOk, hc]
      refine hpre _ (fun h1 => ?_) (fun h1 h2 => ?_)
      · simp [h1, h3]
        refine aws_loop (fun m T' H' => ∃ a b, c :: q = a ++ b ∧ m = b.length ∧ T' 0 = .str (c :: q) ∧ T' 4 = .int .u64 (numVal a) ∧ T' 5 = .int .i64 a.length ∧ H' = H) (q.length + 1) ⟨[], c :: q, rfl, by simp, by simp, by simp [numVal], by simp, rfl⟩ ?_
        rintro m T H1 ⟨a, b, hab, rfl, t0, t4, t5, rfl⟩
        have hlen : a.length + b.length = q.length + 1 := by rw [← List.length_append, ← hab]; rfl
        cases b with
        | nil =>
          have ha : a = c :: q := by rw [hab]; simp
          subst ha
          simp [t0, t4, t5]
          have hp19 : (10 : Nat) ^ 19 = 10000000000000000000 := by decide
          refine ⟨_, ⟨rfl, ?_⟩, fun h => ?_⟩
          · rw [hok, Bool.eq_iff_iff, decide_eq_true_eq, decide_eq_true_eq]; omega
          · rw [hok, decide_eq_true_eq] at h
            exact IntWalk.i64_in _ (by omega)
        | cons x b =>
          have hx := hd x (by rw [hab]; simp)
          simp only [isDigit, Bool.and_eq_true, decide_eq_true_eq] at hx
          simp only [List.length_cons] at hlen
          have hva := numVal_high (a ++ [x]) (fun y hy => hd y (by rw [hab]; simp at hy ⊢; rcases hy with h | h <;> simp [h]))
          have hp2 : 10 ^ (a ++ [x]).length ≤ 10 ^ 19 := Nat.pow_le_pow_right (by omega) (by simp; omega)
          have hp19 : (10 : Nat) ^ 19 = 10000000000000000000 := by decide
          have hn := numVal_snoc' a x
          rw [hn] at hva
          have hlt : (a.length : Int) < q.length + 1 := by omega
          have hle : a.length < q.length + 1 := by omega
          have hgx : (c :: q)[a.length]? = some x := by rw [hab]; simp
          obtain ⟨d, hdd⟩ : ∃ d, d = x.toNat - 48 := ⟨_, rfl⟩
          have n4 : IntKind.u8.wrap ((x.toNat : Int) - 48) = d := by rw [wrap_u8 _ (by omega) (by omega)]; omega
          have n8 : IntKind.u64.wrap (d : Int) = d := wrap_u64 _ (by omega) (by omega)
          have m1 : IntKind.u64.wrap (10 * (numVal a : Int)) = 10 * numVal a := wrap_u64 _ (by omega) (by omega)
          have m2 : IntKind.u64.wrap (10 * (numVal a : Int) + d) = 10 * numVal a + d := wrap_u64 _ (by omega) (by omega)
          have hw : IntKind.i64.wrap ((a.length : Int) + 1) = a.length + 1 := IntWalk.i64_in _ (by omega)
          simp [t0, t4, t5, hlt, hle, hgx, n4, n8, m1, m2, hw]
          refine ⟨b.length, by omega, a ++ [x], b, by simp [hab], rfl, ?_, by simp⟩
          have e : ∀ h, (c :: q)[a.length]'h = x := fun h => by
            have := List.getElem?_eq_getElem h
            rw [hgx] at this
            exact (Option.some.inj this).symm
          rw [e, n4, n8, m2, hn, hdd]
          omega
      · simp [h1, h2, h3]
        refine aws_loop (fun m T' H' => ∃ a b, c :: q = a ++ b ∧ m = b.length ∧ T' 0 = .str (c :: q) ∧ T' 4 = .int .u64 (numVal a) ∧ T' 5 = .int .i64 a.length ∧ H' = H) (q.length + 1) ⟨[], c :: q, rfl, by simp, by simp, by simp [numVal], by simp, rfl⟩ ?_
        rintro m T H1 ⟨a, b, hab, rfl, t0, t4, t5, rfl⟩
        have hlen : a.length + b.length = q.length + 1 := by rw [← List.length_append, ← hab]; rfl
        cases b with
        | nil =>
          have ha : a = c :: q := by rw [hab]; simp
          subst ha
          simp [t0, t4, t5]
          have hp19 : (10 : Nat) ^ 19 = 10000000000000000000 := by decide
          refine ⟨_, ⟨rfl, ?_⟩, fun h => ?_⟩
          · rw [hok, Bool.eq_iff_iff, decide_eq_true_eq, decide_eq_true_eq]; omega
          · rw [hok, decide_eq_true_eq] at h
            exact IntWalk.i64_in _ (by omega)
        | cons x b =>
          have hx := hd x (by rw [hab]; simp)
          simp only [isDigit, Bool.and_eq_true, decide_eq_true_eq] at hx
          simp only [List.length_cons] at hlen
          have hva := numVal_high (a ++ [x]) (fun y hy => hd y (by rw [hab]; simp at hy ⊢; rcases hy with h | h <;> simp [h]))
          have hp2 : 10 ^ (a ++ [x]).length ≤ 10 ^ 19 := Nat.pow_le_pow_right (by omega) (by simp; omega)
          have hp19 : (10 : Nat) ^ 19 = 10000000000000000000 := by decide
          have hn := numVal_snoc' a x
          rw [hn] at hva
          have hlt : (a.length : Int) < q.length + 1 := by omega
          have hle : a.length < q.length + 1 := by omega
          have hgx : (c :: q)[a.length]? = some x := by rw [hab]; simp
          obtain ⟨d, hdd⟩ : ∃ d, d = x.toNat - 48 := ⟨_, rfl⟩
          have n4 : IntKind.u8.wrap ((x.toNat : Int) - 48) = d := by rw [wrap_u8 _ (by omega) (by omega)]; omega
          have n8 : IntKind.u64.wrap (d : Int) = d := wrap_u64 _ (by omega) (by omega)
          have m1 : IntKind.u64.wrap (10 * (numVal a : Int)) = 10 * numVal a := wrap_u64 _ (by omega) (by omega)
          have m2 : IntKind.u64.wrap (10 * (numVal a : Int) + d) = 10 * numVal a + d := wrap_u64 _ (by omega) (by omega)
          have hw : IntKind.i64.wrap ((a.length : Int) + 1) = a.length + 1 := IntWalk.i64_in _ (by omega)
          simp [t0, t4, t5, hlt, hle, hgx, n4, n8, m1, m2, hw]
          refine ⟨b.length, by omega, a ++ [x], b, by simp [hab], rfl, ?_, by simp⟩
          have e : ∀ h, (c :: q)[a.length]'h = x := fun h => by
            have := List.getElem?_eq_getElem h
            rw [hgx] at this
            exact (Option.some.inj this).symm
          rw [e, n4, n8, m2, hn, hdd]
          omega
end Go.Proofs.YthoaeogblnnhbaaDoor

/-
  The second reader of texts (escapementref4): sign.
-/


namespace Go.Proofs.YthoaeogblnnhbaaDoor
open Go Go.Abs Go.Lex
set_option linter.unusedSimpArgs false
variable {G : Nat → Option AV}

theorem two_pre (w : Bs) (hw : w.length = 2) (c d : UInt8) (q : Bs) : w.isPrefixOf (c :: d :: q) = ([c, d] == w) := by
  match w, hw with
  | [x, y], _ =>
    simp only [List.isPrefixOf]
    rw [Bool.eq_iff_iff]
    simp
    constructor
    · rintro ⟨rfl, rfl⟩; exact ⟨rfl, rfl⟩
    · rintro ⟨rfl, rfl⟩; exact ⟨rfl, rfl⟩
theorem two_one (w : Bs) (hw : w.length = 2) (c : UInt8) : w.isPrefixOf [c] = false := by
  match w, hw with
  | [x, y], _ => simp [List.isPrefixOf]
theorem twos_len : ∀ w ∈ twos, w.length = 2 := by decide

set_option maxRecDepth 100000 in
theorem rsign_does (c : UInt8) (q : Bs) (hl : q.length ≤ 20000) (H : AHeap) : Does Tryd.prog G 20 [.str (c :: q)] H fun r H' => r = .str (signT (c :: q)) ∧ H' = H := by
  refine Does.forgot (R := fun r H' => r = .str (signT (c :: q)) ∧ ∀ j x, H.get j = some x → H'.get j = some x) ?_ ?_
  · refine Does.wf Tryd.call20 fun hw _ => ?_
    have old : ∀ j x, H.get j = some x → j ≠ H.next := fun j x hj => by have := next_lt hw hj; omega
    refine does_f Tryd.call20 Tryd.func20 rfl (by simp [Tryd.f20]) ?_
    simp
    refine aws_loop (fun m T' H' => ∃ a b, twos = a ++ b ∧ m = b.length ∧ (∀ y ∈ a, y.isPrefixOf (c :: q) = false) ∧ T' 0 = .str (c :: q) ∧ T' 3 = .sl H.next 0 1 4 4 false ∧ T' 4 = .int .i64 a.length ∧ H' = H.push (.cells (twos.map .str))) 4 ⟨[], twos, rfl, rfl, by simp, by simp, by simp, by simp, by simp [twos]⟩ ?_
    rintro m T H' ⟨a, b, hab, rfl, hn, h0, h3, h4, rfl⟩
    have hlen : a.length + b.length = 4 := by rw [← List.length_append, ← hab]; rfl
    have htl : twos.length = 4 := rfl
    cases b with
    | nil =>
      have ha : a.length = 4 := by simpa using hlen
      have hnp : ∀ y ∈ twos, y.isPrefixOf (c :: q) = false := by rw [hab, List.append_nil]; exact hn
      simp [h0, h3, h4, ha]
      refine aws_loop (fun m T' H' => ∃ a b, ones = a ++ b ∧ m = b.length ∧ c ∉ a ∧ T' 0 = .str (c :: q) ∧ T' 5 = .str ones ∧ T' 6 = .int .i64 a.length ∧ H' = H.push (.cells (twos.map .str))) 12 ⟨[], ones, rfl, rfl, by simp, by simp [h0], by simp [ones], by simp, rfl⟩ ?_
      clear h0 h3 h4 hab hn ha hlen
      rintro m T H' ⟨a, b, hab, rfl, hn, h0, h5, h6, rfl⟩
      have hlen : a.length + b.length = 12 := by rw [← List.length_append, ← hab]; rfl
      have hol : ones.length = 12 := rfl
      cases b with
      | nil =>
        have ha : a.length = 12 := by simpa using hlen
        have hs : signT (c :: q) = [] := by
          unfold signT
          rw [sign_none hnp (by rw [hab, List.append_nil]; exact hn)]; rfl
        simp [h0, h5, h6, ha, hol, hs]
        intro j x hj
        simp [hj, old j x hj]
      | cons t b =>
        simp only [List.length_cons] at hlen
        have hlt : (a.length : Int) < 12 := by omega
        have hlt3 : a.length < 12 := by omega
        have hw1 : IntKind.i64.wrap ((a.length : Int) + 1) = a.length + 1 := IntWalk.i64_in _ (by omega)
        have hg : ones[a.length]? = some t := by rw [hab]; simp
        have hg2 : ∀ h, ones[a.length]'h = t := fun h => by
          have := List.getElem?_eq_getElem h
          rw [hg] at this
          exact (Option.some.inj this).symm
        simp [h0, h5, h6, hlt, hol]
        refine aw_drawn [] mixedOrders (by kernel_rfl) ?_
        intro es hes
        have hct : ((c.toNat : Int) = t.toNat) ↔ c = t := by
          constructor
          · intro e; exact UInt8.toNat_inj.1 (by omega)
          · rintro rfl; rfl
        by_cases e : c = t
        · subst e
          have hs : signT (c :: q) = [c] := by
            unfold signT
            rw [sign_one hnp hab hn]; rfl
          simp [h0, h5, h6, hlt, hlt3, hol, hg2, rds, heapF, hs]
          refine ⟨?_, ?_⟩
          · subst hes
            exact ⟨by kernel_rfl, by kernel_rfl⟩
          have hq1 : (1 : Int) ≤ (q.length : Int) + 1 := by omega
          simp [hq1]
          refine ⟨hs.symm, fun j x hj => ?_⟩
          simp [hj, old j x hj]
        · have e1 : ¬ (c.toNat : Int) = t.toNat := fun h => e (hct.1 h)
          simp [h0, h5, h6, hlt, hlt3, hol, hg2, rds, heapF, e1, hw1]
          refine ⟨?_, ?_⟩
          · subst hes
            exact ⟨by kernel_rfl, by kernel_rfl⟩
          exact ⟨b.length, by omega, a ++ [t], b, by simp [hab], rfl, by simp [hn, e], by simp⟩
    | cons t b =>
      have htt := twos_len t (by rw [hab]; simp)
      simp only [List.length_cons] at hlen
      have hlt : (a.length : Int) < 4 := by omega
      have hlt2 : a.length ≤ 4 := by omega
      have hlt3 : a.length < 4 := by omega
      have hw1 : IntKind.i64.wrap ((a.length : Int) + 1) = a.length + 1 := IntWalk.i64_in _ (by omega)
      have hd : List.drop a.length (List.map AV.str twos) = .str t :: b.map .str := by
        rw [hab, List.map_append, List.drop_left' (by simp)]; rfl
      simp [h0, h3, h4, hlt, hlt2, hlt3, hd, htl, hw1]
      cases q with
      | nil =>
        refine aw_drawn [] mixedOrders (by kernel_rfl) ?_
        intro es hes
        simp [h0, h3, h4, hlt, hlt2, hlt3, hd, htl, hw1, rds, heapF]
        refine ⟨?_, ?_⟩
        · subst hes
          exact ⟨by kernel_rfl, by kernel_rfl⟩
        refine ⟨b.length, by omega, a ++ [t], b, by simp [hab], rfl, ?_, by simp⟩
        intro y hy
        exact two_one y (twos_len y (by rw [hab]; simp at hy ⊢; rcases hy with h | h <;> simp [h])) c
      | cons d q =>
        have hl2 : (2 : Int) ≤ (q.length : Int) + 1 + 1 := by omega
        have hl3 : 2 ≤ q.length + 1 + 1 := by omega
        refine aw_drawn [(9, 0)] mixedOrders (by kernel_rfl) ?_
        intro es hes
        by_cases e : [c, d] = t
        · subst e
          have hs : signT (c :: d :: q) = [c, d] := by
            unfold signT
            rw [sign_two hab hn (by rw [two_pre _ rfl]; simp)]; rfl
          simp [h0, h3, h4, hlt, hlt2, hlt3, hd, htl, hl2, hl3, rds, heapF, hs]
          refine ⟨?_, ?_⟩
          · subst hes
            exact ⟨by kernel_rfl, by kernel_rfl⟩
          intro j x hj
          simp [hj, old j x hj]
        · have e1 : ([c, d] == t) = false := by simpa using e
          simp [h0, h3, h4, hlt, hlt2, hlt3, hd, htl, hl2, hl3, rds, heapF, e1, hw1]
          refine ⟨?_, ?_⟩
          · subst hes
            exact ⟨by kernel_rfl, by kernel_rfl⟩
          refine ⟨b.length, by omega, a ++ [t], b, by simp [hab], rfl, ?_, by simp⟩
          intro y hy
          simp at hy
          rcases hy with h | rfl
          · exact hn y h
          · rw [two_pre _ htt]; exact e1
  · rintro hw ha r H1 ⟨rfl, h⟩
    exact ⟨h, rfl, rfl, rfl⟩
end Go.Proofs.YthoaeogblnnhbaaDoor

/-
  The second reader of texts (escapementref4): Cut.
-/



namespace Go.Proofs.YthoaeogblnnhbaaDoor
open Go Go.Abs Go.Lex
set_option linter.unusedSimpArgs false
variable {G : Nat → Option AV}

/-- The words so far: where they lie. -/
def Wrd2 (H : AHeap) (lo : Nat) (x : AV) (ws : List (Nat × Wd)) : Prop := ∃ b op, x = .sl b 0 4 ws.length ws.length op ∧ lo ≤ b ∧ H.get b = some (.cells (flatW ws))

theorem drop_at {t : Bs} {n : Nat} (h : n < t.length) : ∃ c q, t.drop n = c :: q ∧ q = t.drop (n + 1) ∧ q.length = t.length - (n + 1) ∧ (∀ h, t[n]'h = c) := by
  refine ⟨t[n], t.drop (n + 1), by rw [List.drop_eq_getElem_cons h], rfl, by simp, fun _ => rfl⟩

theorem tl_two {c : UInt8} {q : Bs} (h : ¬ (c = 45 ∧ q.head? = some 45)) : ∀ r, c :: q ≠ 45 :: 45 :: r := by
  intro r e
  simp only [List.cons.injEq] at e
  exact h ⟨e.1, by rw [e.2]; rfl⟩

theorem blank4 (c : UInt8) : isBlank c = true ↔ (c.toNat : Int) = 32 ∨ (c.toNat : Int) = 9 ∨ (c.toNat : Int) = 10 ∨ (c.toNat : Int) = 13 := by
  unfold isBlank
  simp only [Bool.or_eq_true, beq_iff_eq, ← UInt8.toNat_inj]
  have e1 : (32 : UInt8).toNat = 32 := rfl
  have e2 : (9 : UInt8).toNat = 9 := rfl
  have e3 : (10 : UInt8).toNat = 10 := rfl
  have e4 : (13 : UInt8).toNat = 13 := rfl
  rw [e1, e2, e3, e4]
  omega

theorem byte_eq (c : UInt8) (k : UInt8) : ((c.toNat : Int) = (k.toNat : Int)) ↔ c = k := by
  constructor
  · intro e; exact UInt8.toNat_inj.1 (by omega)
  · rintro rfl; rfl

set_option maxHeartbeats 8000000 in
set_option maxRecDepth 100000 in
theorem rcut_live (t : Bs) (hL : t.length ≤ 16384) (H : AHeap) : Does Tryd.prog G 10 [.str t] H (CutR H t) := by
  refine Does.wf Tryd.call10 fun hw _ => ?_
  have old : ∀ j x, H.get j = some x → j < H.next := fun j x hj => next_lt hw hj
  refine does_f Tryd.call10 Tryd.func10 rfl (by simp [Tryd.f10]) ?_
  have hL' : ¬ (16384 : Int) < t.length := by omega
  have hL2 : ¬ 16384 < t.length := by omega
  simp [hL']
  refine aws_loopw (fun m T' H' => ∃ (ws : List (Nat × Wd)) (n : Nat), cutS t.length t = aheadW ws (cutS t.length (t.drop n)) ∧ n ≤ t.length ∧ m = t.length - n ∧ ws.length ≤ n ∧
    T' 0 = .str t ∧ T' 3 = .ptr H.next 0 ∧ T' 5 = .int .i64 n ∧ Wrd2 H' (H.next + 1) (T' 4) ws ∧ H'.get H.next = some (.cells [.int .i64 0, .int .i64 0]) ∧ (∀ j x, H.get j = some x → H'.get j = some x)) t.length ?_ ?_
  · refine ⟨[], 0, ?_, by omega, by omega, by simp, by simp, by simp, by simp, ⟨H.next + 1, false, by simp, by omega, by simp [flatW]⟩, by simp, fun j x hj => ?_⟩
    · rw [List.drop_zero]; cases cutS t.length t <;> rfl
    · have := old j x hj
      have h1 : j ≠ H.next := by omega
      have h2 : j ≠ H.next + 1 := by omega
      simp [hj, h1, h2]
  rintro m T H1 ⟨ws, n, hcut, hn, rfl, hws, h0, h3, h5, h4, hf, hkeep⟩ hw1 _
  have oldn : ∀ j x, H1.get j = some x → j < H1.next := fun j x hj => next_lt hw1 hj
  have hfn := oldn _ _ hf
  have hne : H.next ≠ H1.next := by omega
  have hne2 : H.next ≠ H1.next + 1 := by omega
  have hne3 : H.next ≠ H1.next + 1 + 1 := by omega
  have hgrow : ¬ (ws.length + 1 ≤ ws.length) := by omega
  have hws' : ws.length ≤ 16384 := by omega
  obtain ⟨b, op, h4, hlo, hb⟩ := h4
  have hbn' := oldn _ _ hb
  have hb1 : b ≠ H1.next := by omega
  have hb2 : H.next ≠ b := by omega
  have hb3 : b ≠ H1.next + 1 := by omega
  have hb4 : H1.next ≠ b := Ne.symm hb1
  have hl1 : (ws.length + 1) * 40 ≤ 140737488355328 := by omega
  have hl2 : ws.length ≤ 4611686018427387903 := by omega
  have htk : List.take (ws.length * 4) (flatW ws) = flatW ws := by rw [List.take_of_length_le]; simp
  have hkeep2 : ∀ j x, H.get j = some x → H1.get j = some x ∧ j ≠ H.next ∧ j ≠ H1.next ∧ j ≠ H1.next + 1 ∧ j ≠ H1.next + 1 + 1 ∧ j ≠ b := fun j x hj => by
    have := old j x hj
    have := oldn j x (hkeep j x hj)
    exact ⟨hkeep j x hj, by omega, by omega, by omega, by omega, by omega⟩
  by_cases hend : n = t.length
  · subst hend
    have hc : cutS t.length t = .ok ws := by
      rw [hcut, cutS_end (by rw [List.drop_length]; exact betw_nil')]; simp [aheadW]
    cases op <;> simp [h0, h3, h4, h5, hf, hne, hne2, hne3, hb, hb1, hb2, hgrow, hl1, hl2, htk]
    all_goals
      refine CutR.okEnd hL2 hc (by omega) (by simp [Ne.symm hne2]) fun j x hj => ?_
      obtain ⟨k1, k2, k3, k4, k5, k6⟩ := hkeep2 j x hj
      simp [k1, k2, k3, k4, k5, k6]
  · have hlt : n < t.length := by omega
    have hlt' : (n : Int) < t.length := by omega
    obtain ⟨c, q, hcq, hq, hql, hg⟩ := drop_at hlt
    have hw2 : IntKind.i64.wrap ((n : Int) + 1) = ((n + 1 : Nat) : Int) := by rw [IntWalk.i64_in _ (by omega)]; omega
    simp [h0, h3, h4, h5, hlt', hlt, hg]
    by_cases c1 : (c.toNat : Int) = 32 ∨ (c.toNat : Int) = 9 ∨ (c.toNat : Int) = 10 ∨ (c.toNat : Int) = 13
    · have hbl : isBlank c = true := (blank4 c).2 c1
      have hcut2 : cutS t.length t = aheadW ws (cutS t.length (t.drop (n + 1))) := by rw [hcut, hcq, cut_blank hbl, hq]
      rcases c1 with e | e | e | e
      all_goals
        simp [h0, h3, h4, h5, hw2, e]
        exact ⟨t.length - (n + 1), by omega, ws, n + 1, hcut2, by omega, rfl, by omega, rfl, ⟨b, op, rfl, hlo, hb⟩, hf, hkeep⟩
    have hbl : isBlank c = false := by
      cases h : isBlank c with
      | false => rfl
      | true => exact absurd ((blank4 c).1 h) c1
    simp only [not_or] at c1
    obtain ⟨e1, e2, e3, e4⟩ := c1
    simp [h0, h3, h4, h5, hw2, e1, e2, e3, e4]
    by_cases c45 : c = 45 ∧ q.head? = some 45
    · obtain ⟨rfl, hq45⟩ := c45
      obtain ⟨q', rfl⟩ : ∃ q', q = 45 :: q' := by
        cases q with
        | nil => simp at hq45
        | cons x q' => simp at hq45; exact ⟨q', by rw [hq45]⟩
      have hlt1 : n + 1 < t.length := by simp at hql; omega
      have hlt1' : (n : Int) + 1 < t.length := by omega
      have hlt1'' : ((n + 1 : Nat) : Int) < t.length := by omega
      have hg1 : ∀ h, t[n + 1]'h = 45 := fun h => by
        rw [List.drop_eq_getElem_cons h] at hq
        simp only [List.cons.injEq] at hq
        exact hq.1.symm
      have hp1 : (0 : Int) ≤ (n : Int) + 1 := by omega
      simp [h0, h3, h4, h5, hw2, hlt1, hlt1', hlt1'', hg1, hp1]
      refine aws_loop (fun m T' H' => ∃ k, m = t.length - k ∧ n ≤ k ∧ k ≤ t.length ∧ (t.drop n).dropWhile (fun b => b != 10) = ((t.drop n).drop (k - n)).dropWhile (fun b => b != 10) ∧ T' 0 = .str t ∧ T' 3 = .ptr H.next 0 ∧ T' 5 = .int .i64 k ∧ T' 4 = .sl b 0 4 ws.length ws.length op ∧ H' = H1) (t.length - n) ⟨n, rfl, by omega, by omega, by simp, by simp [h0], by simp [h3], by simp [h5], by simp [h4], rfl⟩ ?_
      clear h0 h3 h5 h4
      rintro m T H' ⟨k, rfl, hnk, hk, hdw, h0, h3, h5, h4, rfl⟩
      have hdd : (t.drop n).drop (k - n) = t.drop k := by rw [List.drop_drop]; congr 1; omega
      have fin : (∀ x r, t.drop k = x :: r → x = 10) → cutS t.length t = aheadW ws (cutS t.length (t.drop k)) ∧ n < k := by
        intro hx
        have hst := drop_stop (p := fun b => b != 10) hdw (by rw [hdd]; intro x r hxr; rw [hx x r hxr]; rfl)
        rw [hdd] at hst
        refine ⟨by rw [hcut, hcq, cut_rem, ← hcq, hst], ?_⟩
        rcases Nat.lt_or_ge n k with h | h
        · exact h
        · have : k = n := by omega
          subst this
          have := hx 45 _ hcq
          simp at this
      by_cases hke : k = t.length
      · subst hke
        obtain ⟨hc2, hlt2⟩ := fin (by intro x r hx; rw [List.drop_length] at hx; simp at hx)
        simp [h0, h3, h4, h5]
        exact ⟨0, by omega, ws, t.length, hc2, by omega, by omega, by omega, rfl, ⟨b, op, rfl, hlo, hb⟩, hf, hkeep⟩
      · have hkl : k < t.length := by omega
        have hkl' : (k : Int) < t.length := by omega
        obtain ⟨x, r, hxr, hr, _, hgx⟩ := drop_at hkl
        have hw3 : IntKind.i64.wrap ((k : Int) + 1) = ((k + 1 : Nat) : Int) := by rw [IntWalk.i64_in _ (by omega)]; omega
        by_cases hx : x = 10
        · subst hx
          obtain ⟨hc2, hlt2⟩ := fin (by intro x r' hx; rw [hxr] at hx; simp at hx; exact hx.1.symm)
          simp [h0, h3, h4, h5, hkl, hkl', hgx]
          exact ⟨t.length - k, by omega, ws, k, hc2, by omega, rfl, by omega, rfl, ⟨b, op, rfl, hlo, hb⟩, hf, hkeep⟩
        · have hx' : ¬ (x.toNat : Int) = 10 := fun e => hx ((byte_eq x 10).1 e)
          have hx2 : ((x.toNat : Int) != 10) = true := by simp [hx']
          simp [h0, h3, h4, h5, hkl, hkl', hgx, hx2, hw3]
          refine ⟨t.length - (k + 1), by omega, k + 1, rfl, by omega, by omega, ?_, rfl⟩
          have := drop_step (p := fun b => b != 10) hdw (by rw [hdd]; exact hxr) (by simpa using hx)
          rw [show k - n + 1 = k + 1 - n by omega] at this
          simpa using this
    have hbw : betw (c :: q) = c :: q := betw_here hbl (tl_two c45)
    have hcases : (¬ c = 45) ∨ (c = 45 ∧ q = []) ∨ ∃ d r, c = 45 ∧ q = d :: r ∧ d ≠ 45 := by
      by_cases e : c = 45
      · right
        cases q with
        | nil => exact .inl ⟨e, rfl⟩
        | cons d r => exact .inr ⟨d, r, e, rfl, fun h => c45 ⟨e, by simp [h]⟩⟩
      · exact .inl e
    have hp1 : (0 : Int) ≤ (n : Int) + 1 := by omega
    rcases hcases with e45 | ⟨e45, hq0⟩ | ⟨d, r, e45, hq0, hd⟩
    · have e45' : ¬ (c.toNat : Int) = 45 := fun h => e45 ((byte_eq c 45).1 h)
      simp [h0, h3, h4, h5, hw2, e45']
      refine does_use (letter_does c _) ?_
      rintro _ _ ⟨rfl, rfl⟩
      obtain ⟨H2, hH2⟩ : ∃ H2, H2 = H1.push (AObj.cells [AV.int IntKind.i64 0, AV.str [], AV.int IntKind.i64 0, AV.int IntKind.i64 n]) := ⟨_, rfl⟩
      have g8 : H2.get H1.next = some (.cells [AV.int IntKind.i64 0, AV.str [], AV.int IntKind.i64 0, AV.int IntKind.i64 n]) := by rw [hH2]; simp
      have hn' : (n : Int) ≤ t.length := by omega
      rw [← hH2]
      by_cases hLt : isLetter c = true
      · have hnm : isNamec c = true := by simp [isNamec, hLt]
        simp [h0, h3, h4, h5, hLt]
        refine aws_loop (fun m T' H' => ∃ k, m = t.length - (n + k) ∧ n + k ≤ t.length ∧ (t.drop n).takeWhile isNamec = (t.drop n).take k ++ ((t.drop n).drop k).takeWhile isNamec ∧ T' 0 = .str t ∧ T' 3 = .ptr H.next 0 ∧ T' 5 = .int .i64 n ∧ T' 4 = .sl b 0 4 ws.length ws.length op ∧ T' 7 = .int .i64 k ∧ T' 8 = .ptr H1.next 0 ∧ T' 9 = .bool true ∧ H' = H2) (t.length - n) ⟨0, by omega, by omega, by simp, by simp [h0], by simp [h3], by simp [h5], by simp [h4], by simp, by simp, by simp, rfl⟩ ?_
        clear h0 h3 h5 h4
        rintro m T H' ⟨k, rfl, hk, htw, h0, h3, h5, h4, h7, h8, h9, rfl⟩
        obtain ⟨e, he⟩ : ∃ e, e = n + k := ⟨_, rfl⟩
        have hdd : (t.drop n).drop k = t.drop e := by rw [List.drop_drop, he]
        have hw5 : IntKind.i64.wrap ((n : Int) + k) = (e : Int) := by rw [IntWalk.i64_in _ (by omega)]; omega
        have hk1 : (e : Int) ≤ t.length := by omega
        have hk2 : (n : Int) ≤ e := by omega
        have hk3 : e - n = k := by omega
        have hcond : (¬ e < t.length) ∨ ∃ x r, e < t.length ∧ t.drop e = x :: r ∧ ∀ h, t[e]'h = x := by
          by_cases hke : e < t.length
          · obtain ⟨x, r, hxr, hr, _, hgx⟩ := drop_at hke
            exact .inr ⟨x, r, hke, hxr, hgx⟩
          · exact .inl hke
        rcases hcond with hke | ⟨x, r, hke, hxr, hgx⟩
        · have hkn : ¬ (e : Int) < t.length := by omega
          have hst := span_stop htw (by rw [hdd, List.drop_of_length_le (by omega)]; simp)
          simp [h0, h3, h4, h5, h7, h8, h9, hw5, hkn, g8, hk1, hk2, hk3]
          refine does_use (rkept_does _ _) ?_
          rintro _ _ ⟨rfl, rfl⟩
          rw [← hst]
          obtain ⟨tx, htx⟩ : ∃ tx, tx = (t.drop n).takeWhile isNamec := ⟨_, rfl⟩
          rw [← htx] at hst ⊢
          have htl : tx.length = k := by rw [hst]; simp; omega
          have hwS : wordS (c :: q) = if kept tx = true then some ⟨2, tx, 0⟩ else if tx.length ≤ 24 then some ⟨1, tx, 0⟩ else none := by
            simp only [wordS, hLt, if_true]
            rw [← hcq, ← htx]
          have htk2 : List.take k (List.drop n t) = tx := hst.symm
          by_cases hkp : kept tx = true
          · have hk24 : (k : Int) ≤ 24 := by have := kept_len hkp; omega
            rw [if_pos hkp] at hwS
            have hcut2 := cut_on hlt hcut hcq hbw hwS
            simp only [htl, ← he] at hcut2
            have hk0 : 0 < k := by rw [← htl]; exact List.length_pos_iff.2 (wordS_text hwS).2
            cases op <;> simp [h0, h3, h4, h5, h7, h8, h9, hw5, hkn, g8, hk1, hk2, hk3, hkp, hk24, hH2, hb, hb1, hb2, hb3, hb4, hne, hne2, hne3, hgrow, hl1, hl2, htk, htk2, hf]
            all_goals
              refine ⟨t.length - e, by omega, ws ++ [(n, ⟨2, tx, 0⟩)], e, hcut2, by omega, rfl, by simp; omega, rfl, ⟨H1.next + 1 + 1, true, by simp, by omega, by simp [flatW_append, flatW, wdCells]⟩, ?_⟩
              intro j x hj
              obtain ⟨u1, u2, u3, u4, u5, u6⟩ := hkeep2 j x hj
              simp [u1, u2, u3, u4, u5, u6]
          · rw [if_neg hkp] at hwS
            have hkp' : kept tx = false := by simpa using hkp
            by_cases h24 : k ≤ 24
            · have hk24 : (k : Int) ≤ 24 := by omega
              rw [if_pos (by omega)] at hwS
              have hcut2 := cut_on hlt hcut hcq hbw hwS
              simp only [htl, ← he] at hcut2
              have hk0 : 0 < k := by rw [← htl]; exact List.length_pos_iff.2 (wordS_text hwS).2
              cases op <;> simp [h0, h3, h4, h5, h7, h8, h9, hw5, hkn, g8, hk1, hk2, hk3, hkp', hk24, hH2, hb, hb1, hb2, hb3, hb4, hne, hne2, hne3, hgrow, hl1, hl2, htk, htk2, hf]
              all_goals
                refine ⟨t.length - e, by omega, ws ++ [(n, ⟨1, tx, 0⟩)], e, hcut2, by omega, rfl, by simp; omega, rfl, ⟨H1.next + 1 + 1, true, by simp, by omega, by simp [flatW_append, flatW, wdCells]⟩, ?_⟩
                intro j x hj
                obtain ⟨u1, u2, u3, u4, u5, u6⟩ := hkeep2 j x hj
                simp [u1, u2, u3, u4, u5, u6]
            · have hk24 : ¬ (k : Int) ≤ 24 := by omega
              rw [if_neg (by omega)] at hwS
              have hbad := cut_no hlt hcut hcq hbw hwS
              simp [h0, h3, h4, h5, h7, h8, h9, hw5, hkn, g8, hk1, hk2, hk3, hkp', hk24, hH2, hb, hb1, hb2, hb3, hb4, hne, hne2, hne3, hgrow, hl1, hl2, htk, htk2, hf]
              refine CutR.badEnd hL2 hbad fun j x hj => ?_
              obtain ⟨u1, u2, u3, u4, u5, u6⟩ := hkeep2 j x hj
              simp [u1, u2, u3, u4, u5, u6]
        · have hkn : (e : Int) < t.length := by omega
          simp [h0, h3, h4, h5, h7, h8, h9, hw5, hkn, g8, hk1, hk2, hk3, hke, hgx]
          refine does_use (letter_does x _) ?_
          rintro _ _ ⟨rfl, rfl⟩
          have hw6 : IntKind.i64.wrap ((k : Int) + 1) = ((k + 1 : Nat) : Int) := by rw [IntWalk.i64_in _ (by omega)]; omega
          have hgo : isNamec x = true → n + (k + 1) ≤ t.length ∧ (t.drop n).takeWhile isNamec = (t.drop n).take (k + 1) ++ (t.drop (n + (k + 1))).takeWhile isNamec := fun hx => ⟨by omega, by rw [← List.drop_drop]; exact span_step htw (by rw [hdd, hxr]) hx⟩
          by_cases hxl : isLetter x = true
          · simp [h0, h3, h4, h5, h7, h8, h9, hw5, hkn, g8, hk1, hk2, hk3, hke, hgx, hxl]
            obtain ⟨g1, g2⟩ := hgo (by simp [isNamec, hxl])
            exact ⟨t.length - (n + (k + 1)), by omega, k + 1, rfl, g1, g2, hw6⟩
          · have hxl' : isLetter x = false := by simpa using hxl
            simp [h0, h3, h4, h5, h7, h8, h9, hw5, hkn, g8, hk1, hk2, hk3, hke, hgx, hxl']
            refine does_use (digit_does x _) ?_
            rintro _ _ ⟨rfl, rfl⟩
            by_cases hxd : isDigit x = true
            · simp [h0, h3, h4, h5, h7, h8, h9, hw5, hkn, g8, hk1, hk2, hk3, hke, hgx, hxl', hxd]
              obtain ⟨g1, g2⟩ := hgo (by simp [isNamec, hxd])
              exact ⟨t.length - (n + (k + 1)), by omega, k + 1, rfl, g1, g2, hw6⟩
            · have hxd' : isDigit x = false := by simpa using hxd
              by_cases hxu : x = 95
              · subst hxu
                simp [h0, h3, h4, h5, h7, h8, h9, hw5, hkn, g8, hk1, hk2, hk3, hke, hgx, hxl', hxd']
                obtain ⟨g1, g2⟩ := hgo (by decide)
                exact ⟨t.length - (n + (k + 1)), by omega, k + 1, rfl, g1, g2, hw6⟩
              · have hxu' : ¬ (x.toNat : Int) = 95 := fun h => hxu ((byte_eq x 95).1 h)
                have hst := span_stop htw (by
                  rw [hdd, hxr]
                  intro y r' hy
                  simp only [List.cons.injEq] at hy
                  rw [← hy.1]
                  simp [isNamec, hxl', hxd', hxu])
                simp [h0, h3, h4, h5, h7, h8, h9, hw5, hkn, g8, hk1, hk2, hk3, hke, hgx, hxl', hxd', hxu']
                refine does_use (rkept_does _ _) ?_
                rintro _ _ ⟨rfl, rfl⟩
                rw [← hst]
                obtain ⟨tx, htx⟩ : ∃ tx, tx = (t.drop n).takeWhile isNamec := ⟨_, rfl⟩
                rw [← htx] at hst ⊢
                have htl : tx.length = k := by rw [hst]; simp; omega
                have hwS : wordS (c :: q) = if kept tx = true then some ⟨2, tx, 0⟩ else if tx.length ≤ 24 then some ⟨1, tx, 0⟩ else none := by
                  simp only [wordS, hLt, if_true]
                  rw [← hcq, ← htx]
                have htk2 : List.take k (List.drop n t) = tx := hst.symm
                by_cases hkp : kept tx = true
                · have hk24 : (k : Int) ≤ 24 := by have := kept_len hkp; omega
                  rw [if_pos hkp] at hwS
                  have hcut2 := cut_on hlt hcut hcq hbw hwS
                  simp only [htl, ← he] at hcut2
                  have hk0 : 0 < k := by rw [← htl]; exact List.length_pos_iff.2 (wordS_text hwS).2
                  cases op <;> simp [h0, h3, h4, h5, h7, h8, h9, hw5, hkn, g8, hk1, hk2, hk3, hke, hgx, hxl', hxd', hxu', hkp, hk24, hH2, hb, hb1, hb2, hb3, hb4, hne, hne2, hne3, hgrow, hl1, hl2, htk, htk2, hf]
                  all_goals
                    refine ⟨t.length - e, by omega, ws ++ [(n, ⟨2, tx, 0⟩)], e, hcut2, by omega, rfl, by simp; omega, rfl, ⟨H1.next + 1 + 1, true, by simp, by omega, by simp [flatW_append, flatW, wdCells]⟩, ?_⟩
                    intro j x hj
                    obtain ⟨u1, u2, u3, u4, u5, u6⟩ := hkeep2 j x hj
                    simp [u1, u2, u3, u4, u5, u6]
                · rw [if_neg hkp] at hwS
                  have hkp' : kept tx = false := by simpa using hkp
                  by_cases h24 : k ≤ 24
                  · have hk24 : (k : Int) ≤ 24 := by omega
                    rw [if_pos (by omega)] at hwS
                    have hcut2 := cut_on hlt hcut hcq hbw hwS
                    simp only [htl, ← he] at hcut2
                    have hk0 : 0 < k := by rw [← htl]; exact List.length_pos_iff.2 (wordS_text hwS).2
                    cases op <;> simp [h0, h3, h4, h5, h7, h8, h9, hw5, hkn, g8, hk1, hk2, hk3, hke, hgx, hxl', hxd', hxu', hkp', hk24, hH2, hb, hb1, hb2, hb3, hb4, hne, hne2, hne3, hgrow, hl1, hl2, htk, htk2, hf]
                    all_goals
                      refine ⟨t.length - e, by omega, ws ++ [(n, ⟨1, tx, 0⟩)], e, hcut2, by omega, rfl, by simp; omega, rfl, ⟨H1.next + 1 + 1, true, by simp, by omega, by simp [flatW_append, flatW, wdCells]⟩, ?_⟩
                      intro j x hj
                      obtain ⟨u1, u2, u3, u4, u5, u6⟩ := hkeep2 j x hj
                      simp [u1, u2, u3, u4, u5, u6]
                  · have hk24 : ¬ (k : Int) ≤ 24 := by omega
                    rw [if_neg (by omega)] at hwS
                    have hbad := cut_no hlt hcut hcq hbw hwS
                    simp [h0, h3, h4, h5, h7, h8, h9, hw5, hkn, g8, hk1, hk2, hk3, hke, hgx, hxl', hxd', hxu', hkp', hk24, hH2, hb, hb1, hb2, hb3, hb4, hne, hne2, hne3, hgrow, hl1, hl2, htk, htk2, hf]
                    refine CutR.badEnd hL2 hbad fun j x hj => ?_
                    obtain ⟨u1, u2, u3, u4, u5, u6⟩ := hkeep2 j x hj
                    simp [u1, u2, u3, u4, u5, u6]
      have hLt' : isLetter c = false := by simpa using hLt
      simp [h0, h3, h4, h5, hLt']
      refine does_use (digit_does c _) ?_
      rintro _ H2 ⟨rfl, rfl⟩
      by_cases hDt : isDigit c = true
      · simp [h0, h3, h4, h5, hLt', hDt]
        refine aws_loop (fun m T' H' => ∃ k, m = t.length - (n + k) ∧ n + k ≤ t.length ∧ (t.drop n).takeWhile isDigit = (t.drop n).take k ++ ((t.drop n).drop k).takeWhile isDigit ∧ T' 0 = .str t ∧ T' 3 = .ptr H.next 0 ∧ T' 5 = .int .i64 n ∧ T' 4 = .sl b 0 4 ws.length ws.length op ∧ T' 7 = .int .i64 k ∧ T' 8 = .ptr H1.next 0 ∧ T' 9 = .bool true ∧ H' = H2) (t.length - n) ⟨0, by omega, by omega, by simp, by simp [h0], by simp [h3], by simp [h5], by simp [h4], by simp, by simp, by simp, rfl⟩ ?_
        clear h0 h3 h5 h4
        rintro m T H' ⟨k, rfl, hk, htw, h0, h3, h5, h4, h7, h8, h9, rfl⟩
        obtain ⟨e, he⟩ : ∃ e, e = n + k := ⟨_, rfl⟩
        have hdd : (t.drop n).drop k = t.drop e := by rw [List.drop_drop, he]
        have hw5 : IntKind.i64.wrap ((n : Int) + k) = (e : Int) := by rw [IntWalk.i64_in _ (by omega)]; omega
        have hk1 : (e : Int) ≤ t.length := by omega
        have hk2 : (n : Int) ≤ e := by omega
        have hk3 : e - n = k := by omega
        have hcond : (¬ e < t.length) ∨ ∃ x r, e < t.length ∧ t.drop e = x :: r ∧ ∀ h, t[e]'h = x := by
          by_cases hke : e < t.length
          · obtain ⟨x, r, hxr, hr, _, hgx⟩ := drop_at hke
            exact .inr ⟨x, r, hke, hxr, hgx⟩
          · exact .inl hke
        rcases hcond with hke | ⟨x, r, hke, hxr, hgx⟩
        · have hkn : ¬ (e : Int) < t.length := by omega
          have hst := span_stop htw (by rw [hdd, List.drop_of_length_le (by omega)]; simp)
          simp [h0, h3, h4, h5, h7, h8, h9, hw5, hkn, g8, hk1, hk2, hk3]
          obtain ⟨tx, htx⟩ : ∃ tx, tx = (t.drop n).takeWhile isDigit := ⟨_, rfl⟩
          rw [← htx] at hst
          have htl : tx.length = k := by rw [hst]; simp; omega
          have htk2 : List.take k (List.drop n t) = tx := hst.symm
          have hall : ∀ b ∈ tx, isDigit b = true := fun b hb => by rw [htx] at hb; exact takeWhile_mem _ _ _ hb
          obtain ⟨tl, htc⟩ : ∃ tl, tx = c :: tl := ⟨q.takeWhile isDigit, by rw [htx, hcq, List.takeWhile_cons, if_pos hDt]⟩
          rw [htk2, htc]
          refine does_use (rnumber_does c tl (by rw [← htc]; exact hall) (by rw [htc] at htl; simp at htl; omega) _) ?_
          rintro _ _ ⟨⟨v, rfl, hv⟩, rfl⟩
          rw [← htc] at hv ⊢
          have hwS : wordS (c :: q) = if numOk tx = true then some ⟨3, tx, numVal tx⟩ else none := by
            simp only [wordS, hLt', hDt, if_true, Bool.false_eq_true, if_false]
            rw [← hcq, ← htx]
            have : (numOk tx = true) ↔ (numVal tx < 9223372036854775808 ∧ (tx.length = 1 ∨ c ≠ 48)) := by
              rw [htc]; simp [numOk]
            simp only [this]
          by_cases hnk : numOk tx = true
          · rw [if_pos hnk] at hwS
            obtain rfl := hv hnk
            have hcut2 := cut_on hlt hcut hcq hbw hwS
            simp only [htl, ← he] at hcut2
            have hk0 : 0 < k := by rw [← htl]; exact List.length_pos_iff.2 (wordS_text hwS).2
            cases op <;> simp [h0, h3, h4, h5, h7, h8, h9, hw5, hkn, g8, hk1, hk2, hk3, hnk, hH2, hb, hb1, hb2, hb3, hb4, hne, hne2, hne3, hgrow, hl1, hl2, htk, htk2, hf]
            all_goals
              refine ⟨t.length - e, by omega, ws ++ [(n, ⟨3, tx, numVal tx⟩)], e, hcut2, by omega, rfl, by simp; omega, rfl, ⟨H1.next + 1 + 1, true, by simp, by omega, by simp [flatW_append, flatW, wdCells]⟩, ?_⟩
              intro j x hj
              obtain ⟨u1, u2, u3, u4, u5, u6⟩ := hkeep2 j x hj
              simp [u1, u2, u3, u4, u5, u6]
          · rw [if_neg hnk] at hwS
            have hnk' : numOk tx = false := by simpa using hnk
            have hbad := cut_no hlt hcut hcq hbw hwS
            simp [h0, h3, h4, h5, h7, h8, h9, hw5, hkn, g8, hk1, hk2, hk3, hnk', hH2, hb, hb1, hb2, hb3, hb4, hne, hne2, hne3, hgrow, hl1, hl2, htk, htk2, hf]
            refine CutR.badEnd hL2 hbad fun j x hj => ?_
            obtain ⟨u1, u2, u3, u4, u5, u6⟩ := hkeep2 j x hj
            simp [u1, u2, u3, u4, u5, u6]
        · have hkn : (e : Int) < t.length := by omega
          simp [h0, h3, h4, h5, h7, h8, h9, hw5, hkn, g8, hk1, hk2, hk3, hke, hgx]
          refine does_use (digit_does x _) ?_
          rintro _ _ ⟨rfl, rfl⟩
          have hw6 : IntKind.i64.wrap ((k : Int) + 1) = ((k + 1 : Nat) : Int) := by rw [IntWalk.i64_in _ (by omega)]; omega
          have hgo : isDigit x = true → n + (k + 1) ≤ t.length ∧ (t.drop n).takeWhile isDigit = (t.drop n).take (k + 1) ++ (t.drop (n + (k + 1))).takeWhile isDigit := fun hx => ⟨by omega, by rw [← List.drop_drop]; exact span_step htw (by rw [hdd, hxr]) hx⟩
          by_cases hxd : isDigit x = true
          · simp [h0, h3, h4, h5, h7, h8, h9, hw5, hkn, g8, hk1, hk2, hk3, hke, hgx, hxd]
            obtain ⟨g1, g2⟩ := hgo hxd
            exact ⟨t.length - (n + (k + 1)), by omega, k + 1, rfl, g1, g2, hw6⟩
          · have hxd' : isDigit x = false := by simpa using hxd
            have hst := span_stop htw (by
              rw [hdd, hxr]
              intro y r' hy
              simp only [List.cons.injEq] at hy
              rw [← hy.1]
              exact hxd')
            simp [h0, h3, h4, h5, h7, h8, h9, hw5, hkn, g8, hk1, hk2, hk3, hke, hgx, hxd']
            obtain ⟨tx, htx⟩ : ∃ tx, tx = (t.drop n).takeWhile isDigit := ⟨_, rfl⟩
            rw [← htx] at hst
            have htl : tx.length = k := by rw [hst]; simp; omega
            have htk2 : List.take k (List.drop n t) = tx := hst.symm
            have hall : ∀ b ∈ tx, isDigit b = true := fun b hb => by rw [htx] at hb; exact takeWhile_mem _ _ _ hb
            obtain ⟨tl, htc⟩ : ∃ tl, tx = c :: tl := ⟨q.takeWhile isDigit, by rw [htx, hcq, List.takeWhile_cons, if_pos hDt]⟩
            rw [htk2, htc]
            refine does_use (rnumber_does c tl (by rw [← htc]; exact hall) (by rw [htc] at htl; simp at htl; omega) _) ?_
            rintro _ _ ⟨⟨v, rfl, hv⟩, rfl⟩
            rw [← htc] at hv ⊢
            have hwS : wordS (c :: q) = if numOk tx = true then some ⟨3, tx, numVal tx⟩ else none := by
              simp only [wordS, hLt', hDt, if_true, Bool.false_eq_true, if_false]
              rw [← hcq, ← htx]
              have : (numOk tx = true) ↔ (numVal tx < 9223372036854775808 ∧ (tx.length = 1 ∨ c ≠ 48)) := by
                rw [htc]; simp [numOk]
              simp only [this]
            by_cases hnk : numOk tx = true
            · rw [if_pos hnk] at hwS
              obtain rfl := hv hnk
              have hcut2 := cut_on hlt hcut hcq hbw hwS
              simp only [htl, ← he] at hcut2
              have hk0 : 0 < k := by rw [← htl]; exact List.length_pos_iff.2 (wordS_text hwS).2
              cases op <;> simp [h0, h3, h4, h5, h7, h8, h9, hw5, hkn, g8, hk1, hk2, hk3, hke, hgx, hxd', hnk, hH2, hb, hb1, hb2, hb3, hb4, hne, hne2, hne3, hgrow, hl1, hl2, htk, htk2, hf]
              all_goals
                refine ⟨t.length - e, by omega, ws ++ [(n, ⟨3, tx, numVal tx⟩)], e, hcut2, by omega, rfl, by simp; omega, rfl, ⟨H1.next + 1 + 1, true, by simp, by omega, by simp [flatW_append, flatW, wdCells]⟩, ?_⟩
                intro j x hj
                obtain ⟨u1, u2, u3, u4, u5, u6⟩ := hkeep2 j x hj
                simp [u1, u2, u3, u4, u5, u6]
            · rw [if_neg hnk] at hwS
              have hnk' : numOk tx = false := by simpa using hnk
              have hbad := cut_no hlt hcut hcq hbw hwS
              simp [h0, h3, h4, h5, h7, h8, h9, hw5, hkn, g8, hk1, hk2, hk3, hke, hgx, hxd', hnk', hH2, hb, hb1, hb2, hb3, hb4, hne, hne2, hne3, hgrow, hl1, hl2, htk, htk2, hf]
              refine CutR.badEnd hL2 hbad fun j x hj => ?_
              obtain ⟨u1, u2, u3, u4, u5, u6⟩ := hkeep2 j x hj
              simp [u1, u2, u3, u4, u5, u6]
      have hDt' : isDigit c = false := by simpa using hDt
      have htk3 : List.take (t.length - n) (c :: q) = c :: q := by rw [List.take_of_length_le]; simp; omega
      simp [h0, h3, h4, h5, hLt', hDt', g8, hcq, hn', htk3]
      refine does_use (rsign_does c q (by omega) _) ?_
      rintro _ _ ⟨rfl, rfl⟩
      have hwS : wordS (c :: q) = match signOf (c :: q) with | some w => some ⟨4, w, 0⟩ | none => none := by
        simp only [wordS, hLt', hDt', Bool.false_eq_true, if_false]
        cases signOf (c :: q) <;> rfl
      cases hsg : signOf (c :: q) with
      | none =>
        have hsT : signT (c :: q) = [] := by rw [signT, hsg]; rfl
        rw [hsg] at hwS
        have hbad := cut_no hlt hcut hcq hbw hwS
        have htk2 := hsT
        simp [h0, h3, h4, h5, g8, hsT, hH2, hb, hb1, hb2, hb3, hb4, hne, hne2, hne3, hgrow, hl1, hl2, htk, htk2, hf]
        refine CutR.badEnd hL2 hbad fun j x hj => ?_
        obtain ⟨u1, u2, u3, u4, u5, u6⟩ := hkeep2 j x hj
        simp [u1, u2, u3, u4, u5, u6]
      | some tx =>
        have hsT : signT (c :: q) = tx := by rw [signT, hsg]; rfl
        rw [hsg] at hwS
        have hpre := wordS_text hwS
        obtain ⟨hpre, htne⟩ := hpre
        have hpl := hpre.length_le
        simp only [List.length_cons] at hpl
        obtain ⟨k, hk⟩ : ∃ k, k = tx.length := ⟨_, rfl⟩
        obtain ⟨e, he⟩ : ∃ e, e = n + k := ⟨_, rfl⟩
        have hk0 : 0 < k := by rw [hk]; exact List.length_pos_iff.2 htne
        have hw5 : IntKind.i64.wrap ((n : Int) + k) = (e : Int) := by rw [IntWalk.i64_in _ (by omega)]; omega
        have hk1 : (e : Int) ≤ t.length := by omega
        have hk2 : (n : Int) ≤ e := by omega
        have hk3 : e - n = k := by omega
        have hk4 : (0 : Int) < k := by omega
        have htk2 : List.take k (c :: q) = tx := by rw [hk]; exact (List.prefix_iff_eq_take.1 hpre).symm
        have hcut2 := cut_on hlt hcut hcq hbw hwS
        simp only [← hk, ← he] at hcut2
        cases op <;> simp [h0, h3, h4, h5, g8, hsT, ← hk, hw5, hk1, hk2, hk3, hk4, hk0, hcq, hH2, hb, hb1, hb2, hb3, hb4, hne, hne2, hne3, hgrow, hl1, hl2, htk, htk2, hf]
        all_goals
          refine ⟨t.length - e, by omega, ws ++ [(n, ⟨4, tx, 0⟩)], e, hcut2, by omega, rfl, by simp; omega, rfl, ⟨H1.next + 1 + 1, true, by simp, by omega, by simp [flatW_append, flatW, wdCells]⟩, ?_⟩
          intro j x hj
          obtain ⟨u1, u2, u3, u4, u5, u6⟩ := hkeep2 j x hj
          simp [u1, u2, u3, u4, u5, u6]
    · have e45' : (c.toNat : Int) = 45 := by rw [e45]; rfl
      have hlast : ¬ ((n + 1 : Nat) : Int) < t.length := by rw [hq0] at hql; simp at hql; omega
      have hlast' : ¬ (n : Int) + 1 < t.length := by omega
      simp [h0, h3, h4, h5, hw2, e45', hlast, hlast']
      have hld : ∀ H, Does Tryd.prog G 17 [.int .u8 45] H fun r H' => r = .bool (isLetter c) ∧ H' = H := fun H => by
        have h := letter_does (G := G) c H
        rw [e45'] at h; exact h
      have hdd : ∀ H, Does Tryd.prog G 18 [.int .u8 45] H fun r H' => r = .bool (isDigit c) ∧ H' = H := fun H => by
        have h := digit_does (G := G) c H
        rw [e45'] at h; exact h
      refine does_use (hld _) ?_
      rintro _ _ ⟨rfl, rfl⟩
      obtain ⟨H2, hH2⟩ : ∃ H2, H2 = H1.push (AObj.cells [AV.int IntKind.i64 0, AV.str [], AV.int IntKind.i64 0, AV.int IntKind.i64 n]) := ⟨_, rfl⟩
      have g8 : H2.get H1.next = some (.cells [AV.int IntKind.i64 0, AV.str [], AV.int IntKind.i64 0, AV.int IntKind.i64 n]) := by rw [hH2]; simp
      have hn' : (n : Int) ≤ t.length := by omega
      rw [← hH2]
      have hLt' : isLetter c = false := by rw [e45]; rfl
      simp [h0, h3, h4, h5, hLt', e45']
      refine does_use (hdd _) ?_
      rintro _ H2 ⟨rfl, rfl⟩
      have hDt' : isDigit c = false := by rw [e45]; rfl
      have htk3 : List.take (t.length - n) (c :: q) = c :: q := by rw [List.take_of_length_le]; simp; omega
      simp [h0, h3, h4, h5, hLt', hDt', g8, hcq, hn', htk3]
      refine does_use (rsign_does c q (by omega) _) ?_
      rintro _ _ ⟨rfl, rfl⟩
      have hwS : wordS (c :: q) = match signOf (c :: q) with | some w => some ⟨4, w, 0⟩ | none => none := by
        simp only [wordS, hLt', hDt', Bool.false_eq_true, if_false]
        cases signOf (c :: q) <;> rfl
      cases hsg : signOf (c :: q) with
      | none =>
        have hsT : signT (c :: q) = [] := by rw [signT, hsg]; rfl
        rw [hsg] at hwS
        have hbad := cut_no hlt hcut hcq hbw hwS
        have htk2 := hsT
        simp [h0, h3, h4, h5, g8, hsT, hH2, hb, hb1, hb2, hb3, hb4, hne, hne2, hne3, hgrow, hl1, hl2, htk, htk2, hf]
        refine CutR.badEnd hL2 hbad fun j x hj => ?_
        obtain ⟨u1, u2, u3, u4, u5, u6⟩ := hkeep2 j x hj
        simp [u1, u2, u3, u4, u5, u6]
      | some tx =>
        have hsT : signT (c :: q) = tx := by rw [signT, hsg]; rfl
        rw [hsg] at hwS
        have hpre := wordS_text hwS
        obtain ⟨hpre, htne⟩ := hpre
        have hpl := hpre.length_le
        simp only [List.length_cons] at hpl
        obtain ⟨k, hk⟩ : ∃ k, k = tx.length := ⟨_, rfl⟩
        obtain ⟨e, he⟩ : ∃ e, e = n + k := ⟨_, rfl⟩
        have hk0 : 0 < k := by rw [hk]; exact List.length_pos_iff.2 htne
        have hw5 : IntKind.i64.wrap ((n : Int) + k) = (e : Int) := by rw [IntWalk.i64_in _ (by omega)]; omega
        have hk1 : (e : Int) ≤ t.length := by omega
        have hk2 : (n : Int) ≤ e := by omega
        have hk3 : e - n = k := by omega
        have hk4 : (0 : Int) < k := by omega
        have htk2 : List.take k (c :: q) = tx := by rw [hk]; exact (List.prefix_iff_eq_take.1 hpre).symm
        have hcut2 := cut_on hlt hcut hcq hbw hwS
        simp only [← hk, ← he] at hcut2
        cases op <;> simp [h0, h3, h4, h5, g8, hsT, ← hk, hw5, hk1, hk2, hk3, hk4, hk0, hcq, hH2, hb, hb1, hb2, hb3, hb4, hne, hne2, hne3, hgrow, hl1, hl2, htk, htk2, hf]
        all_goals
          refine ⟨t.length - e, by omega, ws ++ [(n, ⟨4, tx, 0⟩)], e, hcut2, by omega, rfl, by simp; omega, rfl, ⟨H1.next + 1 + 1, true, by simp, by omega, by simp [flatW_append, flatW, wdCells]⟩, ?_⟩
          intro j x hj
          obtain ⟨u1, u2, u3, u4, u5, u6⟩ := hkeep2 j x hj
          simp [u1, u2, u3, u4, u5, u6]
    · have e45' : (c.toNat : Int) = 45 := by rw [e45]; rfl
      have hlt1 : n + 1 < t.length := by rw [hq0] at hql; simp at hql; omega
      have hlt1' : (n : Int) + 1 < t.length := by omega
      have hg1 : ∀ h, t[n + 1]'h = d := fun h => by
        rw [hq0, List.drop_eq_getElem_cons h] at hq
        simp only [List.cons.injEq] at hq
        exact hq.1.symm
      have hd' : ¬ (d.toNat : Int) = 45 := fun h => hd ((byte_eq d 45).1 h)
      simp [h0, h3, h4, h5, hw2, e45', hlt1, hlt1', hg1, hp1, hd']
      have hld : ∀ H, Does Tryd.prog G 17 [.int .u8 45] H fun r H' => r = .bool (isLetter c) ∧ H' = H := fun H => by
        have h := letter_does (G := G) c H
        rw [e45'] at h; exact h
      have hdd : ∀ H, Does Tryd.prog G 18 [.int .u8 45] H fun r H' => r = .bool (isDigit c) ∧ H' = H := fun H => by
        have h := digit_does (G := G) c H
        rw [e45'] at h; exact h
      refine does_use (hld _) ?_
      rintro _ _ ⟨rfl, rfl⟩
      obtain ⟨H2, hH2⟩ : ∃ H2, H2 = H1.push (AObj.cells [AV.int IntKind.i64 0, AV.str [], AV.int IntKind.i64 0, AV.int IntKind.i64 n]) := ⟨_, rfl⟩
      have g8 : H2.get H1.next = some (.cells [AV.int IntKind.i64 0, AV.str [], AV.int IntKind.i64 0, AV.int IntKind.i64 n]) := by rw [hH2]; simp
      have hn' : (n : Int) ≤ t.length := by omega
      rw [← hH2]
      have hLt' : isLetter c = false := by rw [e45]; rfl
      simp [h0, h3, h4, h5, hLt', e45']
      refine does_use (hdd _) ?_
      rintro _ H2 ⟨rfl, rfl⟩
      have hDt' : isDigit c = false := by rw [e45]; rfl
      have htk3 : List.take (t.length - n) (c :: q) = c :: q := by rw [List.take_of_length_le]; simp; omega
      simp [h0, h3, h4, h5, hLt', hDt', g8, hcq, hn', htk3]
      refine does_use (rsign_does c q (by omega) _) ?_
      rintro _ _ ⟨rfl, rfl⟩
      have hwS : wordS (c :: q) = match signOf (c :: q) with | some w => some ⟨4, w, 0⟩ | none => none := by
        simp only [wordS, hLt', hDt', Bool.false_eq_true, if_false]
        cases signOf (c :: q) <;> rfl
      cases hsg : signOf (c :: q) with
      | none =>
        have hsT : signT (c :: q) = [] := by rw [signT, hsg]; rfl
        rw [hsg] at hwS
        have hbad := cut_no hlt hcut hcq hbw hwS
        have htk2 := hsT
        simp [h0, h3, h4, h5, g8, hsT, hH2, hb, hb1, hb2, hb3, hb4, hne, hne2, hne3, hgrow, hl1, hl2, htk, htk2, hf]
        refine CutR.badEnd hL2 hbad fun j x hj => ?_
        obtain ⟨u1, u2, u3, u4, u5, u6⟩ := hkeep2 j x hj
        simp [u1, u2, u3, u4, u5, u6]
      | some tx =>
        have hsT : signT (c :: q) = tx := by rw [signT, hsg]; rfl
        rw [hsg] at hwS
        have hpre := wordS_text hwS
        obtain ⟨hpre, htne⟩ := hpre
        have hpl := hpre.length_le
        simp only [List.length_cons] at hpl
        obtain ⟨k, hk⟩ : ∃ k, k = tx.length := ⟨_, rfl⟩
        obtain ⟨e, he⟩ : ∃ e, e = n + k := ⟨_, rfl⟩
        have hk0 : 0 < k := by rw [hk]; exact List.length_pos_iff.2 htne
        have hw5 : IntKind.i64.wrap ((n : Int) + k) = (e : Int) := by rw [IntWalk.i64_in _ (by omega)]; omega
        have hk1 : (e : Int) ≤ t.length := by omega
        have hk2 : (n : Int) ≤ e := by omega
        have hk3 : e - n = k := by omega
        have hk4 : (0 : Int) < k := by omega
        have htk2 : List.take k (c :: q) = tx := by rw [hk]; exact (List.prefix_iff_eq_take.1 hpre).symm
        have hcut2 := cut_on hlt hcut hcq hbw hwS
        simp only [← hk, ← he] at hcut2
        cases op <;> simp [h0, h3, h4, h5, g8, hsT, ← hk, hw5, hk1, hk2, hk3, hk4, hk0, hcq, hH2, hb, hb1, hb2, hb3, hb4, hne, hne2, hne3, hgrow, hl1, hl2, htk, htk2, hf]
        all_goals
          refine ⟨t.length - e, by omega, ws ++ [(n, ⟨4, tx, 0⟩)], e, hcut2, by omega, rfl, by simp; omega, rfl, ⟨H1.next + 1 + 1, true, by simp, by omega, by simp [flatW_append, flatW, wdCells]⟩, ?_⟩
          intro j x hj
          obtain ⟨u1, u2, u3, u4, u5, u6⟩ := hkeep2 j x hj
          simp [u1, u2, u3, u4, u5, u6]

/-- Cut, its answer frozen. -/
theorem rcut_does (t : Bs) (hL : t.length ≤ 16384) (H : AHeap) : Does Tryd.prog G 10 [.str t] H fun r H' => r = cutAns t ∧ H' = H := by
  have hL : ¬ 16384 < t.length := by omega
  cases hc : cutS t.length t with
  | error e =>
    refine Does.forgot (rcut_live t (by omega) H) ?_
    rintro hw ha r H1 ⟨hk, hr⟩
    rw [if_neg hL, hc] at hr
    simp only at hr
    subst hr
    exact ⟨hk, rfl, by simp [cutAns, hL, hc], rfl⟩
  | ok l =>
    refine Does.frozen (rcut_live t (by omega) H) ?_
    rintro hw ha r H1 ⟨hk, hr⟩
    rw [if_neg hL, hc] at hr
    obtain ⟨b, hb, rfl, hg⟩ := hr
    refine ⟨b, _, hb, hg, hk, ?_, ?_, rfl⟩
    · simp [AV.frz, AV.frzs, AV.idLt, AV.allLt]
      rw [List.take_of_length_le (by simp; omega)]
      simp [allLt_app, flatW_lt, AV.allLt, AV.idLt]
    · simp [AV.frz, AV.frzs, cutAns, hL, hc]
      rw [List.take_of_length_le (by simp; omega)]
end Go.Proofs.YthoaeogblnnhbaaDoor

/-
  LexCuts: any text is cut into words, or has its first fault, just where the document says.
-/



namespace Go.Proofs.YthoaeogblnnhbaaDoor
open Go Go.Abs Go.Lex
set_option linter.unusedSimpArgs false
variable {G : Nat → Option AV}

set_option maxRecDepth 100000 in
theorem bad_does (a b : Int) (H : AHeap) : Does Tryd.prog G 11 [.agg [.int .i64 a, .int .i64 b]] H fun r H' => r = .agg [.int .i64 a, .int .i64 b] ∧ H' = H := by
  refine Does.forgot (R := fun r H' => r = .agg [.int .i64 a, .int .i64 b] ∧ ∀ j x, H.get j = some x → H'.get j = some x) ?_ ?_
  · refine Does.wf Tryd.call11 fun hw _ => ?_
    have old : ∀ j x, H.get j = some x → j ≠ H.next ∧ j ≠ H.next + 1 := fun j x hj => by have := next_lt hw hj; omega
    refine does_f Tryd.call11 Tryd.func11 rfl (by simp [Tryd.f11]) ?_
    simp
    intro j x hj
    simp [hj, old j x hj]
  · rintro hw ha r H1 ⟨rfl, h⟩
    exact ⟨h, by simp [AV.idLt, AV.allLt], rfl, rfl⟩

set_option maxHeartbeats 8000000 in
set_option maxRecDepth 100000 in
theorem cuts_run (hG : HasErr G) (H : AHeap) (t : Bs) : Does Tryd.prog G 4 [.str t] H fun r _ => r = .bool true := by
  refine does_f Tryd.call4 Tryd.func4 rfl (by simp [Tryd.f4]) ?_
  simp
  refine does_use (awake_does hG H) ?_
  rintro _ _ ⟨rfl, rfl⟩
  by_cases h1 : 2000 < t.length
  · have h1' : (2000 : Int) < t.length := by omega
    simp [h1']
  · have h1' : ¬ (2000 : Int) < t.length := by omega
    simp [h1']
    refine does_use (cut_does t hG _ (by omega)) ?_
    rintro _ H1 ⟨rfl, rfl⟩
    rcases cutAns_cases t (by omega) with ⟨e, hans, _⟩ | ⟨l, hcut, hans⟩
    · rw [hans]
      simp
      refine does_use (rcut_does t (by omega) _) ?_
      rintro _ H2 ⟨rfl, rfl⟩
      rw [hans]
      simp
      refine aw_drawn [(0, 0), (2, 0), (2, 2)] mixedOrders (by kernel_rfl) ?_
      intro es hes
      simp
      refine ⟨_, _, bad_does _ _ _, by simp, ?_⟩
      simp [rds, heapF]
      refine ⟨?_, ?_⟩
      · subst hes
        exact ⟨by kernel_rfl, by kernel_rfl⟩
      refine aws_loop (fun m T' H' => T' 3 = .nilsl ∧ T' 7 = .int .i64 0) 0 ⟨by simp, by simp⟩ ?_
      rintro m T H' ⟨t3, t7⟩
      simp [t3, t7]
    · rw [hans]
      obtain ⟨L, hL⟩ : ∃ L, L = l ++ [(t.length, (⟨0, [], 0⟩ : Wd))] := ⟨_, rfl⟩
      have hLl : L.length = l.length + 1 := by rw [hL]; simp
      obtain ⟨w1, w2, w3⟩ := cut_words (t.length + 1) t (by omega) l hcut
      have hLL : L.length ≤ 2001 := by have := count_words l w1; omega
      rw [← hL, ← hLl] at hans ⊢
      simp
      refine does_use (rcut_does t (by omega) _) ?_
      rintro _ H2 ⟨rfl, rfl⟩
      rw [hans]
      simp
      refine aw_drawn [(0, 0), (2, 0), (2, 2)] mixedOrders (by kernel_rfl) ?_
      intro es hes
      simp
      refine ⟨_, _, bad_does _ _ _, by simp, ?_⟩
      simp [rds, heapF]
      refine ⟨?_, ?_⟩
      · subst hes
        exact ⟨by kernel_rfl, by kernel_rfl⟩
      clear hes
      refine aws_loop (fun m T' H' => ∃ i, m = L.length - i ∧ i ≤ L.length ∧ T' 3 = .vsl (flatW L) L.length ∧ T' 5 = .vsl (flatW L) L.length ∧ T' 7 = .int .i64 i) L.length ⟨0, by omega, by omega, by simp, by simp, by simp⟩ ?_
      rintro m T H' ⟨i, rfl, hi, t3, t5, t7⟩
      by_cases hlt : i < L.length
      · have g1 : (i : Int) < L.length := by omega
        obtain ⟨⟨p, w⟩, hw⟩ : ∃ x, L[i]? = some x := ⟨_, List.getElem?_eq_getElem hlt⟩
        have hdr := flatW_drop L i p w hw
        have g2 : IntKind.i64.wrap ((i : Int) + 1) = i + 1 := IntWalk.i64_in _ (by omega)
        simp [t3, t5, t7, g1]
        refine aw_still' (by simp only [List.append_eq, List.cons_append, List.nil_append]; rfl) mixedOrders (by kernel_rfl) ?_
        intro es hes
        refine as_list ?_
        refine as_split 12 ?_
        simp [t3, t5, t7, g1, hdr, wdCells]
        refine as_go (fun T' => T' 3 = .vsl (flatW L) L.length ∧ T' 5 = .vsl (flatW L) L.length ∧ T' 7 = .int .i64 i ∧ T' 0 = T 0 ∧ T' 51 = .bool false) (by simp [t3, t5, t7, g1, hdr, wdCells]) ?_
        clear t3 t5 t7
        rintro T1 ⟨t3, t5, t7, t01, b1⟩
        simp only [asf_drop_cons, asf_drop_zero]
        refine as_split 13 ?_
        simp (maxSteps := 1000000) [t3, t5, t7, g1, hdr, wdCells, b1]
        refine as_go (fun T' => T' 3 = .vsl (flatW L) L.length ∧ T' 5 = .vsl (flatW L) L.length ∧ T' 7 = .int .i64 i ∧ T' 0 = T1 0 ∧ T' 64 = .bool false) (by simp [t3, t5, t7, g1, hdr, wdCells, b1]) ?_
        clear t3 t5 t7 b1
        rintro T2 ⟨t3, t5, t7, t02, b2⟩
        simp only [asf_drop_cons, asf_drop_zero]
        refine as_split 13 ?_
        simp (maxSteps := 1000000) [t3, t5, t7, g1, hdr, wdCells, b2]
        refine as_go (fun T' => T' 3 = .vsl (flatW L) L.length ∧ T' 5 = .vsl (flatW L) L.length ∧ T' 7 = .int .i64 i ∧ T' 0 = T2 0 ∧ T' 77 = .bool false) (by simp [t3, t5, t7, g1, hdr, wdCells, b2]) ?_
        clear t3 t5 t7 b2
        rintro T3 ⟨t3, t5, t7, t03, b3⟩
        simp only [asf_drop_cons, asf_drop_zero]
        refine as_split 13 ?_
        simp (maxSteps := 1000000) [t3, t5, t7, g1, hdr, wdCells, b3]
        refine as_go (fun T' => T' 3 = .vsl (flatW L) L.length ∧ T' 5 = .vsl (flatW L) L.length ∧ T' 7 = .int .i64 i ∧ T' 0 = T3 0 ∧ T' 90 = .bool false) (by simp [t3, t5, t7, g1, hdr, wdCells, b3]) ?_
        clear t3 t5 t7 b3
        rintro T4 ⟨t3, t5, t7, t04, b4⟩
        simp only [asf_drop_cons, asf_drop_zero]
        simp (maxSteps := 1000000) [t3, t5, t7, g1, hdr, wdCells, b4]
        refine ⟨_, kept_does _ _, as_cont ?_⟩
        simp (maxSteps := 1000000) [t3, t5, t7, g1, hdr, wdCells, b4]
        refine ⟨_, rkept_does _ _, as_cont ?_⟩
        simp (maxSteps := 1000000) [t3, t5, t7, g1, hdr, wdCells, b4]
        refine ⟨?_, ?_⟩
        · subst hes
          kernel_rfl
        exact ⟨L.length - (i + 1), by omega, i + 1, rfl, by omega, g2⟩
      · obtain rfl : i = L.length := by omega
        simp [t3, t5, t7]

set_option maxRecDepth 100000 in
theorem cuts_law (H : AHeap) (a : AV) (ha : Shp Tryd.prog 8 9 [a]) : Does Tryd.prog (Gof tab) 4 [a] H fun r _ => r = .bool true := by
  obtain ⟨s, rfl, _⟩ := shp_str ha
  exact cuts_run hasErr H s
end Go.Proofs.YthoaeogblnnhbaaDoor
