/-
  Facts on the types of this program, by program (facts.py).
-/
import Derived.Test.YtcbiaeoladjecaaAbsZ
import Derived.Test.YtcbiaeoladjecaaProg
import Derived.KernelRfl
namespace Go.Proofs
open Go Go.Abs
@[simp] theorem Try.asize0 : asize Try.prog 0 = some 1 := by kernel_rfl
@[simp] theorem Try.info0 : Try.prog.info? 0 = some Try.t0 := by kernel_rfl
@[simp] theorem Try.tsize0 : Try.t0.size = 1 := by kernel_rfl
@[simp] theorem Try.tbytes0 : Try.t0.bytes = 0 := by kernel_rfl
@[simp] theorem Try.azero0 : azero Try.prog 0 = some (.tuple []) := by kernel_rfl
@[simp] theorem Try.asize1 : asize Try.prog 1 = some 1 := by kernel_rfl
@[simp] theorem Try.info1 : Try.prog.info? 1 = some Try.t1 := by kernel_rfl
@[simp] theorem Try.tsize1 : Try.t1.size = 1 := by kernel_rfl
@[simp] theorem Try.tbytes1 : Try.t1.bytes = 8 := by kernel_rfl
@[simp] theorem Try.azero1 : azero Try.prog 1 = some (.nilfunc) := by kernel_rfl
@[simp] theorem Try.asize2 : asize Try.prog 2 = some 1 := by kernel_rfl
@[simp] theorem Try.info2 : Try.prog.info? 2 = some Try.t2 := by kernel_rfl
@[simp] theorem Try.tsize2 : Try.t2.size = 1 := by kernel_rfl
@[simp] theorem Try.tbytes2 : Try.t2.bytes = 8 := by kernel_rfl
@[simp] theorem Try.azero2 : azero Try.prog 2 = some (.int .i64 (0)) := by kernel_rfl
@[simp] theorem Try.asize3 : asize Try.prog 3 = some 1 := by kernel_rfl
@[simp] theorem Try.info3 : Try.prog.info? 3 = some Try.t3 := by kernel_rfl
@[simp] theorem Try.tsize3 : Try.t3.size = 1 := by kernel_rfl
@[simp] theorem Try.tbytes3 : Try.t3.bytes = 8 := by kernel_rfl
@[simp] theorem Try.azero3 : azero Try.prog 3 = some (.int .i64 (0)) := by kernel_rfl
@[simp] theorem Try.asize4 : asize Try.prog 4 = some 1 := by kernel_rfl
@[simp] theorem Try.info4 : Try.prog.info? 4 = some Try.t4 := by kernel_rfl
@[simp] theorem Try.tsize4 : Try.t4.size = 1 := by kernel_rfl
@[simp] theorem Try.tbytes4 : Try.t4.bytes = 1 := by kernel_rfl
@[simp] theorem Try.azero4 : azero Try.prog 4 = some (.bool false) := by kernel_rfl
@[simp] theorem Try.asize5 : asize Try.prog 5 = some 1 := by kernel_rfl
@[simp] theorem Try.info5 : Try.prog.info? 5 = some Try.t5 := by kernel_rfl
@[simp] theorem Try.tsize5 : Try.t5.size = 1 := by kernel_rfl
@[simp] theorem Try.tbytes5 : Try.t5.bytes = 1 := by kernel_rfl
@[simp] theorem Try.azero5 : azero Try.prog 5 = some (.int .u8 (0)) := by kernel_rfl
@[simp] theorem Try.asize6 : asize Try.prog 6 = some 1 := by kernel_rfl
@[simp] theorem Try.info6 : Try.prog.info? 6 = some Try.t6 := by kernel_rfl
@[simp] theorem Try.tsize6 : Try.t6.size = 1 := by kernel_rfl
@[simp] theorem Try.tbytes6 : Try.t6.bytes = 1 := by kernel_rfl
@[simp] theorem Try.azero6 : azero Try.prog 6 = some (.int .u8 (0)) := by kernel_rfl
@[simp] theorem Try.asize7 : asize Try.prog 7 = some 4 := by kernel_rfl
@[simp] theorem Try.info7 : Try.prog.info? 7 = some Try.t7 := by kernel_rfl
@[simp] theorem Try.tsize7 : Try.t7.size = 4 := by kernel_rfl
@[simp] theorem Try.tbytes7 : Try.t7.bytes = 24 := by kernel_rfl
@[simp] theorem Try.azero7 : azero Try.prog 7 = some (.agg [.int .i64 (0), .int .i64 (0), .bool false, .int .u8 (0)]) := by kernel_rfl
@[simp] theorem Try.asize8 : asize Try.prog 8 = some 4 := by kernel_rfl
@[simp] theorem Try.info8 : Try.prog.info? 8 = some Try.t8 := by kernel_rfl
@[simp] theorem Try.tsize8 : Try.t8.size = 4 := by kernel_rfl
@[simp] theorem Try.tbytes8 : Try.t8.bytes = 24 := by kernel_rfl
@[simp] theorem Try.azero8 : azero Try.prog 8 = some (.agg [.int .i64 (0), .int .i64 (0), .bool false, .int .u8 (0)]) := by kernel_rfl
@[simp] theorem Try.asize9 : asize Try.prog 9 = some 1 := by kernel_rfl
@[simp] theorem Try.info9 : Try.prog.info? 9 = some Try.t9 := by kernel_rfl
@[simp] theorem Try.tsize9 : Try.t9.size = 1 := by kernel_rfl
@[simp] theorem Try.tbytes9 : Try.t9.bytes = 16 := by kernel_rfl
@[simp] theorem Try.azero9 : azero Try.prog 9 = some (.str []) := by kernel_rfl
@[simp] theorem Try.asize10 : asize Try.prog 10 = some 1 := by kernel_rfl
@[simp] theorem Try.info10 : Try.prog.info? 10 = some Try.t10 := by kernel_rfl
@[simp] theorem Try.tsize10 : Try.t10.size = 1 := by kernel_rfl
@[simp] theorem Try.tbytes10 : Try.t10.bytes = 16 := by kernel_rfl
@[simp] theorem Try.azero10 : azero Try.prog 10 = some (.str []) := by kernel_rfl
@[simp] theorem Try.asize11 : asize Try.prog 11 = some 1 := by kernel_rfl
@[simp] theorem Try.info11 : Try.prog.info? 11 = some Try.t11 := by kernel_rfl
@[simp] theorem Try.tsize11 : Try.t11.size = 1 := by kernel_rfl
@[simp] theorem Try.tbytes11 : Try.t11.bytes = 16 := by kernel_rfl
@[simp] theorem Try.azero11 : azero Try.prog 11 = some (.str []) := by kernel_rfl
@[simp] theorem Try.asize12 : asize Try.prog 12 = some 1 := by kernel_rfl
@[simp] theorem Try.info12 : Try.prog.info? 12 = some Try.t12 := by kernel_rfl
@[simp] theorem Try.tsize12 : Try.t12.size = 1 := by kernel_rfl
@[simp] theorem Try.tbytes12 : Try.t12.bytes = 8 := by kernel_rfl
@[simp] theorem Try.azero12 : azero Try.prog 12 = some (.int .u64 (0)) := by kernel_rfl
@[simp] theorem Try.asize13 : asize Try.prog 13 = some 2 := by kernel_rfl
@[simp] theorem Try.info13 : Try.prog.info? 13 = some Try.t13 := by kernel_rfl
@[simp] theorem Try.tsize13 : Try.t13.size = 2 := by kernel_rfl
@[simp] theorem Try.tbytes13 : Try.t13.bytes = 24 := by kernel_rfl
@[simp] theorem Try.azero13 : azero Try.prog 13 = some (.agg [.str [], .int .u64 (0)]) := by kernel_rfl
@[simp] theorem Try.asize14 : asize Try.prog 14 = some 2 := by kernel_rfl
@[simp] theorem Try.info14 : Try.prog.info? 14 = some Try.t14 := by kernel_rfl
@[simp] theorem Try.tsize14 : Try.t14.size = 2 := by kernel_rfl
@[simp] theorem Try.tbytes14 : Try.t14.bytes = 24 := by kernel_rfl
@[simp] theorem Try.azero14 : azero Try.prog 14 = some (.agg [.str [], .int .u64 (0)]) := by kernel_rfl
@[simp] theorem Try.asize15 : asize Try.prog 15 = some 1 := by kernel_rfl
@[simp] theorem Try.info15 : Try.prog.info? 15 = some Try.t15 := by kernel_rfl
@[simp] theorem Try.tsize15 : Try.t15.size = 1 := by kernel_rfl
@[simp] theorem Try.tbytes15 : Try.t15.bytes = 8 := by kernel_rfl
@[simp] theorem Try.azero15 : azero Try.prog 15 = some (.nilptr) := by kernel_rfl
@[simp] theorem Try.asize16 : asize Try.prog 16 = some 1 := by kernel_rfl
@[simp] theorem Try.info16 : Try.prog.info? 16 = some Try.t16 := by kernel_rfl
@[simp] theorem Try.tsize16 : Try.t16.size = 1 := by kernel_rfl
@[simp] theorem Try.tbytes16 : Try.t16.bytes = 8 := by kernel_rfl
@[simp] theorem Try.azero16 : azero Try.prog 16 = some (.nilptr) := by kernel_rfl
@[simp] theorem Try.asize17 : asize Try.prog 17 = some 1 := by kernel_rfl
@[simp] theorem Try.info17 : Try.prog.info? 17 = some Try.t17 := by kernel_rfl
@[simp] theorem Try.tsize17 : Try.t17.size = 1 := by kernel_rfl
@[simp] theorem Try.tbytes17 : Try.t17.bytes = 8 := by kernel_rfl
@[simp] theorem Try.azero17 : azero Try.prog 17 = some (.nilptr) := by kernel_rfl
@[simp] theorem Try.asize18 : asize Try.prog 18 = some 1 := by kernel_rfl
@[simp] theorem Try.info18 : Try.prog.info? 18 = some Try.t18 := by kernel_rfl
@[simp] theorem Try.tsize18 : Try.t18.size = 1 := by kernel_rfl
@[simp] theorem Try.tbytes18 : Try.t18.bytes = 8 := by kernel_rfl
@[simp] theorem Try.azero18 : azero Try.prog 18 = some (.agg [.nilptr]) := by kernel_rfl
@[simp] theorem Try.asize19 : asize Try.prog 19 = some 1 := by kernel_rfl
@[simp] theorem Try.info19 : Try.prog.info? 19 = some Try.t19 := by kernel_rfl
@[simp] theorem Try.tsize19 : Try.t19.size = 1 := by kernel_rfl
@[simp] theorem Try.tbytes19 : Try.t19.bytes = 8 := by kernel_rfl
@[simp] theorem Try.azero19 : azero Try.prog 19 = some (.agg [.nilptr]) := by kernel_rfl
@[simp] theorem Try.asize20 : asize Try.prog 20 = some 1 := by kernel_rfl
@[simp] theorem Try.info20 : Try.prog.info? 20 = some Try.t20 := by kernel_rfl
@[simp] theorem Try.tsize20 : Try.t20.size = 1 := by kernel_rfl
@[simp] theorem Try.tbytes20 : Try.t20.bytes = 16 := by kernel_rfl
@[simp] theorem Try.azero20 : azero Try.prog 20 = some (.niliface) := by kernel_rfl
@[simp] theorem Try.asize21 : asize Try.prog 21 = some 1 := by kernel_rfl
@[simp] theorem Try.info21 : Try.prog.info? 21 = some Try.t21 := by kernel_rfl
@[simp] theorem Try.tsize21 : Try.t21.size = 1 := by kernel_rfl
@[simp] theorem Try.tbytes21 : Try.t21.bytes = 4 := by kernel_rfl
@[simp] theorem Try.azero21 : azero Try.prog 21 = some (.int .i32 (0)) := by kernel_rfl
@[simp] theorem Try.asize22 : asize Try.prog 22 = some 1 := by kernel_rfl
@[simp] theorem Try.info22 : Try.prog.info? 22 = some Try.t22 := by kernel_rfl
@[simp] theorem Try.tsize22 : Try.t22.size = 1 := by kernel_rfl
@[simp] theorem Try.tbytes22 : Try.t22.bytes = 8 := by kernel_rfl
@[simp] theorem Try.azero22 : azero Try.prog 22 = some (.nilfunc) := by kernel_rfl
@[simp] theorem Try.asize23 : asize Try.prog 23 = some 1 := by kernel_rfl
@[simp] theorem Try.info23 : Try.prog.info? 23 = some Try.t23 := by kernel_rfl
@[simp] theorem Try.tsize23 : Try.t23.size = 1 := by kernel_rfl
@[simp] theorem Try.tbytes23 : Try.t23.bytes = 8 := by kernel_rfl
@[simp] theorem Try.azero23 : azero Try.prog 23 = some (.nilptr) := by kernel_rfl
@[simp] theorem Try.asize24 : asize Try.prog 24 = some 1 := by kernel_rfl
@[simp] theorem Try.info24 : Try.prog.info? 24 = some Try.t24 := by kernel_rfl
@[simp] theorem Try.tsize24 : Try.t24.size = 1 := by kernel_rfl
@[simp] theorem Try.tbytes24 : Try.t24.bytes = 8 := by kernel_rfl
@[simp] theorem Try.azero24 : azero Try.prog 24 = some (.nilfunc) := by kernel_rfl
@[simp] theorem Try.asize25 : asize Try.prog 25 = some 1 := by kernel_rfl
@[simp] theorem Try.info25 : Try.prog.info? 25 = some Try.t25 := by kernel_rfl
@[simp] theorem Try.tsize25 : Try.t25.size = 1 := by kernel_rfl
@[simp] theorem Try.tbytes25 : Try.t25.bytes = 24 := by kernel_rfl
@[simp] theorem Try.azero25 : azero Try.prog 25 = some (.nilsl) := by kernel_rfl
@[simp] theorem Try.asize26 : asize Try.prog 26 = some 3 := by kernel_rfl
@[simp] theorem Try.info26 : Try.prog.info? 26 = some Try.t26 := by kernel_rfl
@[simp] theorem Try.tsize26 : Try.t26.size = 3 := by kernel_rfl
@[simp] theorem Try.tbytes26 : Try.t26.bytes = 40 := by kernel_rfl
@[simp] theorem Try.azero26 : azero Try.prog 26 = some (.agg [.int .i64 (0), .int .i64 (0), .nilsl]) := by kernel_rfl
@[simp] theorem Try.asize27 : asize Try.prog 27 = some 3 := by kernel_rfl
@[simp] theorem Try.info27 : Try.prog.info? 27 = some Try.t27 := by kernel_rfl
@[simp] theorem Try.tsize27 : Try.t27.size = 3 := by kernel_rfl
@[simp] theorem Try.tbytes27 : Try.t27.bytes = 40 := by kernel_rfl
@[simp] theorem Try.azero27 : azero Try.prog 27 = some (.agg [.int .i64 (0), .int .i64 (0), .nilsl]) := by kernel_rfl
@[simp] theorem Try.asize28 : asize Try.prog 28 = some 1 := by kernel_rfl
@[simp] theorem Try.info28 : Try.prog.info? 28 = some Try.t28 := by kernel_rfl
@[simp] theorem Try.tsize28 : Try.t28.size = 1 := by kernel_rfl
@[simp] theorem Try.tbytes28 : Try.t28.bytes = 0 := by kernel_rfl
@[simp] theorem Try.asize29 : asize Try.prog 29 = some 1 := by kernel_rfl
@[simp] theorem Try.info29 : Try.prog.info? 29 = some Try.t29 := by kernel_rfl
@[simp] theorem Try.tsize29 : Try.t29.size = 1 := by kernel_rfl
@[simp] theorem Try.tbytes29 : Try.t29.bytes = 8 := by kernel_rfl
@[simp] theorem Try.azero29 : azero Try.prog 29 = some (.nilfunc) := by kernel_rfl
@[simp] theorem Try.asize30 : asize Try.prog 30 = some 1 := by kernel_rfl
@[simp] theorem Try.info30 : Try.prog.info? 30 = some Try.t30 := by kernel_rfl
@[simp] theorem Try.tsize30 : Try.t30.size = 1 := by kernel_rfl
@[simp] theorem Try.tbytes30 : Try.t30.bytes = 8 := by kernel_rfl
@[simp] theorem Try.azero30 : azero Try.prog 30 = some (.int .i64 (0)) := by kernel_rfl
@[simp] theorem Try.asize31 : asize Try.prog 31 = some 1 := by kernel_rfl
@[simp] theorem Try.info31 : Try.prog.info? 31 = some Try.t31 := by kernel_rfl
@[simp] theorem Try.tsize31 : Try.t31.size = 1 := by kernel_rfl
@[simp] theorem Try.tbytes31 : Try.t31.bytes = 8 := by kernel_rfl
@[simp] theorem Try.azero31 : azero Try.prog 31 = some (.nilfunc) := by kernel_rfl
@[simp] theorem Try.asize32 : asize Try.prog 32 = some 1 := by kernel_rfl
@[simp] theorem Try.info32 : Try.prog.info? 32 = some Try.t32 := by kernel_rfl
@[simp] theorem Try.tsize32 : Try.t32.size = 1 := by kernel_rfl
@[simp] theorem Try.tbytes32 : Try.t32.bytes = 8 := by kernel_rfl
@[simp] theorem Try.azero32 : azero Try.prog 32 = some (.nilfunc) := by kernel_rfl
@[simp] theorem Try.asize33 : asize Try.prog 33 = some 1 := by kernel_rfl
@[simp] theorem Try.info33 : Try.prog.info? 33 = some Try.t33 := by kernel_rfl
@[simp] theorem Try.tsize33 : Try.t33.size = 1 := by kernel_rfl
@[simp] theorem Try.tbytes33 : Try.t33.bytes = 8 := by kernel_rfl
@[simp] theorem Try.azero33 : azero Try.prog 33 = some (.nilfunc) := by kernel_rfl
@[simp] theorem Try.asize34 : asize Try.prog 34 = some 1 := by kernel_rfl
@[simp] theorem Try.info34 : Try.prog.info? 34 = some Try.t34 := by kernel_rfl
@[simp] theorem Try.tsize34 : Try.t34.size = 1 := by kernel_rfl
@[simp] theorem Try.tbytes34 : Try.t34.bytes = 8 := by kernel_rfl
@[simp] theorem Try.azero34 : azero Try.prog 34 = some (.nilfunc) := by kernel_rfl
@[simp] theorem Try.asize35 : asize Try.prog 35 = some 1 := by kernel_rfl
@[simp] theorem Try.info35 : Try.prog.info? 35 = some Try.t35 := by kernel_rfl
@[simp] theorem Try.tsize35 : Try.t35.size = 1 := by kernel_rfl
@[simp] theorem Try.tbytes35 : Try.t35.bytes = 24 := by kernel_rfl
@[simp] theorem Try.azero35 : azero Try.prog 35 = some (.nilsl) := by kernel_rfl
@[simp] theorem Try.asize36 : asize Try.prog 36 = some 1 := by kernel_rfl
@[simp] theorem Try.info36 : Try.prog.info? 36 = some Try.t36 := by kernel_rfl
@[simp] theorem Try.tsize36 : Try.t36.size = 1 := by kernel_rfl
@[simp] theorem Try.tbytes36 : Try.t36.bytes = 24 := by kernel_rfl
@[simp] theorem Try.azero36 : azero Try.prog 36 = some (.nilsl) := by kernel_rfl
@[simp] theorem Try.asize37 : asize Try.prog 37 = some 5 := by kernel_rfl
@[simp] theorem Try.info37 : Try.prog.info? 37 = some Try.t37 := by kernel_rfl
@[simp] theorem Try.tsize37 : Try.t37.size = 5 := by kernel_rfl
@[simp] theorem Try.tbytes37 : Try.t37.bytes = 56 := by kernel_rfl
@[simp] theorem Try.azero37 : azero Try.prog 37 = some (.agg [.int .i64 (0), .int .i64 (0), .int .i64 (0), .int .i64 (0), .nilsl]) := by kernel_rfl
@[simp] theorem Try.asize38 : asize Try.prog 38 = some 5 := by kernel_rfl
@[simp] theorem Try.info38 : Try.prog.info? 38 = some Try.t38 := by kernel_rfl
@[simp] theorem Try.tsize38 : Try.t38.size = 5 := by kernel_rfl
@[simp] theorem Try.tbytes38 : Try.t38.bytes = 56 := by kernel_rfl
@[simp] theorem Try.azero38 : azero Try.prog 38 = some (.agg [.int .i64 (0), .int .i64 (0), .int .i64 (0), .int .i64 (0), .nilsl]) := by kernel_rfl
@[simp] theorem Try.asize39 : asize Try.prog 39 = some 1 := by kernel_rfl
@[simp] theorem Try.info39 : Try.prog.info? 39 = some Try.t39 := by kernel_rfl
@[simp] theorem Try.tsize39 : Try.t39.size = 1 := by kernel_rfl
@[simp] theorem Try.tbytes39 : Try.t39.bytes = 8 := by kernel_rfl
@[simp] theorem Try.azero39 : azero Try.prog 39 = some (.nilfunc) := by kernel_rfl
@[simp] theorem Try.asize40 : asize Try.prog 40 = some 1 := by kernel_rfl
@[simp] theorem Try.info40 : Try.prog.info? 40 = some Try.t40 := by kernel_rfl
@[simp] theorem Try.tsize40 : Try.t40.size = 1 := by kernel_rfl
@[simp] theorem Try.tbytes40 : Try.t40.bytes = 8 := by kernel_rfl
@[simp] theorem Try.azero40 : azero Try.prog 40 = some (.nilfunc) := by kernel_rfl
@[simp] theorem Try.asize41 : asize Try.prog 41 = some 1 := by kernel_rfl
@[simp] theorem Try.info41 : Try.prog.info? 41 = some Try.t41 := by kernel_rfl
@[simp] theorem Try.tsize41 : Try.t41.size = 1 := by kernel_rfl
@[simp] theorem Try.tbytes41 : Try.t41.bytes = 8 := by kernel_rfl
@[simp] theorem Try.azero41 : azero Try.prog 41 = some (.nilfunc) := by kernel_rfl
@[simp] theorem Try.asize42 : asize Try.prog 42 = some 1 := by kernel_rfl
@[simp] theorem Try.info42 : Try.prog.info? 42 = some Try.t42 := by kernel_rfl
@[simp] theorem Try.tsize42 : Try.t42.size = 1 := by kernel_rfl
@[simp] theorem Try.tbytes42 : Try.t42.bytes = 24 := by kernel_rfl
@[simp] theorem Try.azero42 : azero Try.prog 42 = some (.nilsl) := by kernel_rfl
@[simp] theorem Try.asize43 : asize Try.prog 43 = some 1 := by kernel_rfl
@[simp] theorem Try.info43 : Try.prog.info? 43 = some Try.t43 := by kernel_rfl
@[simp] theorem Try.tsize43 : Try.t43.size = 1 := by kernel_rfl
@[simp] theorem Try.tbytes43 : Try.t43.bytes = 8 := by kernel_rfl
@[simp] theorem Try.azero43 : azero Try.prog 43 = some (.nilfunc) := by kernel_rfl
@[simp] theorem Try.asize44 : asize Try.prog 44 = some 1 := by kernel_rfl
@[simp] theorem Try.info44 : Try.prog.info? 44 = some Try.t44 := by kernel_rfl
@[simp] theorem Try.tsize44 : Try.t44.size = 1 := by kernel_rfl
@[simp] theorem Try.tbytes44 : Try.t44.bytes = 8 := by kernel_rfl
@[simp] theorem Try.azero44 : azero Try.prog 44 = some (.nilfunc) := by kernel_rfl
@[simp] theorem Try.asize45 : asize Try.prog 45 = some 1 := by kernel_rfl
@[simp] theorem Try.info45 : Try.prog.info? 45 = some Try.t45 := by kernel_rfl
@[simp] theorem Try.tsize45 : Try.t45.size = 1 := by kernel_rfl
@[simp] theorem Try.tbytes45 : Try.t45.bytes = 8 := by kernel_rfl
@[simp] theorem Try.azero45 : azero Try.prog 45 = some (.nilfunc) := by kernel_rfl
@[simp] theorem Try.asize46 : asize Try.prog 46 = some 1 := by kernel_rfl
@[simp] theorem Try.info46 : Try.prog.info? 46 = some Try.t46 := by kernel_rfl
@[simp] theorem Try.tsize46 : Try.t46.size = 1 := by kernel_rfl
@[simp] theorem Try.tbytes46 : Try.t46.bytes = 24 := by kernel_rfl
@[simp] theorem Try.azero46 : azero Try.prog 46 = some (.agg [.nilsl]) := by kernel_rfl
@[simp] theorem Try.asize47 : asize Try.prog 47 = some 1 := by kernel_rfl
@[simp] theorem Try.info47 : Try.prog.info? 47 = some Try.t47 := by kernel_rfl
@[simp] theorem Try.tsize47 : Try.t47.size = 1 := by kernel_rfl
@[simp] theorem Try.tbytes47 : Try.t47.bytes = 24 := by kernel_rfl
@[simp] theorem Try.azero47 : azero Try.prog 47 = some (.agg [.nilsl]) := by kernel_rfl
@[simp] theorem Try.asize48 : asize Try.prog 48 = some 1 := by kernel_rfl
@[simp] theorem Try.info48 : Try.prog.info? 48 = some Try.t48 := by kernel_rfl
@[simp] theorem Try.tsize48 : Try.t48.size = 1 := by kernel_rfl
@[simp] theorem Try.tbytes48 : Try.t48.bytes = 8 := by kernel_rfl
@[simp] theorem Try.azero48 : azero Try.prog 48 = some (.nilfunc) := by kernel_rfl
@[simp] theorem Try.asize49 : asize Try.prog 49 = some 1 := by kernel_rfl
@[simp] theorem Try.info49 : Try.prog.info? 49 = some Try.t49 := by kernel_rfl
@[simp] theorem Try.tsize49 : Try.t49.size = 1 := by kernel_rfl
@[simp] theorem Try.tbytes49 : Try.t49.bytes = 8 := by kernel_rfl
@[simp] theorem Try.azero49 : azero Try.prog 49 = some (.nilfunc) := by kernel_rfl
@[simp] theorem Try.asize50 : asize Try.prog 50 = some 1 := by kernel_rfl
@[simp] theorem Try.info50 : Try.prog.info? 50 = some Try.t50 := by kernel_rfl
@[simp] theorem Try.tsize50 : Try.t50.size = 1 := by kernel_rfl
@[simp] theorem Try.tbytes50 : Try.t50.bytes = 8 := by kernel_rfl
@[simp] theorem Try.azero50 : azero Try.prog 50 = some (.nilfunc) := by kernel_rfl
@[simp] theorem Try.asize51 : asize Try.prog 51 = some 1 := by kernel_rfl
@[simp] theorem Try.info51 : Try.prog.info? 51 = some Try.t51 := by kernel_rfl
@[simp] theorem Try.tsize51 : Try.t51.size = 1 := by kernel_rfl
@[simp] theorem Try.tbytes51 : Try.t51.bytes = 8 := by kernel_rfl
@[simp] theorem Try.azero51 : azero Try.prog 51 = some (.nilfunc) := by kernel_rfl
@[simp] theorem Try.asize52 : asize Try.prog 52 = some 1 := by kernel_rfl
@[simp] theorem Try.info52 : Try.prog.info? 52 = some Try.t52 := by kernel_rfl
@[simp] theorem Try.tsize52 : Try.t52.size = 1 := by kernel_rfl
@[simp] theorem Try.tbytes52 : Try.t52.bytes = 8 := by kernel_rfl
@[simp] theorem Try.azero52 : azero Try.prog 52 = some (.nilfunc) := by kernel_rfl
@[simp] theorem Try.asize53 : asize Try.prog 53 = some 1 := by kernel_rfl
@[simp] theorem Try.info53 : Try.prog.info? 53 = some Try.t53 := by kernel_rfl
@[simp] theorem Try.tsize53 : Try.t53.size = 1 := by kernel_rfl
@[simp] theorem Try.tbytes53 : Try.t53.bytes = 8 := by kernel_rfl
@[simp] theorem Try.azero53 : azero Try.prog 53 = some (.nilfunc) := by kernel_rfl
@[simp] theorem Try.asize54 : asize Try.prog 54 = some 4 := by kernel_rfl
@[simp] theorem Try.info54 : Try.prog.info? 54 = some Try.t54 := by kernel_rfl
@[simp] theorem Try.tsize54 : Try.t54.size = 4 := by kernel_rfl
@[simp] theorem Try.tbytes54 : Try.t54.bytes = 40 := by kernel_rfl
@[simp] theorem Try.azero54 : azero Try.prog 54 = some (.agg [.nilptr, .nilptr, .nilptr, .str []]) := by kernel_rfl
@[simp] theorem Try.asize55 : asize Try.prog 55 = some 4 := by kernel_rfl
@[simp] theorem Try.info55 : Try.prog.info? 55 = some Try.t55 := by kernel_rfl
@[simp] theorem Try.tsize55 : Try.t55.size = 4 := by kernel_rfl
@[simp] theorem Try.tbytes55 : Try.t55.bytes = 40 := by kernel_rfl
@[simp] theorem Try.azero55 : azero Try.prog 55 = some (.agg [.nilptr, .nilptr, .nilptr, .str []]) := by kernel_rfl
@[simp] theorem Try.asize56 : asize Try.prog 56 = some 0 := by kernel_rfl
@[simp] theorem Try.info56 : Try.prog.info? 56 = some Try.t56 := by kernel_rfl
@[simp] theorem Try.tsize56 : Try.t56.size = 0 := by kernel_rfl
@[simp] theorem Try.tbytes56 : Try.t56.bytes = 0 := by kernel_rfl
@[simp] theorem Try.azero56 : azero Try.prog 56 = some (.agg []) := by kernel_rfl
@[simp] theorem Try.asize57 : asize Try.prog 57 = some 0 := by kernel_rfl
@[simp] theorem Try.info57 : Try.prog.info? 57 = some Try.t57 := by kernel_rfl
@[simp] theorem Try.tsize57 : Try.t57.size = 0 := by kernel_rfl
@[simp] theorem Try.tbytes57 : Try.t57.bytes = 0 := by kernel_rfl
@[simp] theorem Try.azero57 : azero Try.prog 57 = some (.agg []) := by kernel_rfl
@[simp] theorem Try.asize58 : asize Try.prog 58 = some 0 := by kernel_rfl
@[simp] theorem Try.info58 : Try.prog.info? 58 = some Try.t58 := by kernel_rfl
@[simp] theorem Try.tsize58 : Try.t58.size = 0 := by kernel_rfl
@[simp] theorem Try.tbytes58 : Try.t58.bytes = 0 := by kernel_rfl
@[simp] theorem Try.azero58 : azero Try.prog 58 = some (.agg []) := by kernel_rfl
@[simp] theorem Try.asize59 : asize Try.prog 59 = some 1 := by kernel_rfl
@[simp] theorem Try.info59 : Try.prog.info? 59 = some Try.t59 := by kernel_rfl
@[simp] theorem Try.tsize59 : Try.t59.size = 1 := by kernel_rfl
@[simp] theorem Try.tbytes59 : Try.t59.bytes = 4 := by kernel_rfl
@[simp] theorem Try.azero59 : azero Try.prog 59 = some (.int .u32 (0)) := by kernel_rfl
@[simp] theorem Try.asize60 : asize Try.prog 60 = some 1 := by kernel_rfl
@[simp] theorem Try.info60 : Try.prog.info? 60 = some Try.t60 := by kernel_rfl
@[simp] theorem Try.tsize60 : Try.t60.size = 1 := by kernel_rfl
@[simp] theorem Try.tbytes60 : Try.t60.bytes = 1 := by kernel_rfl
@[simp] theorem Try.azero60 : azero Try.prog 60 = some (.int .u8 (0)) := by kernel_rfl
@[simp] theorem Try.asize61 : asize Try.prog 61 = some 1 := by kernel_rfl
@[simp] theorem Try.info61 : Try.prog.info? 61 = some Try.t61 := by kernel_rfl
@[simp] theorem Try.tsize61 : Try.t61.size = 1 := by kernel_rfl
@[simp] theorem Try.tbytes61 : Try.t61.bytes = 1 := by kernel_rfl
@[simp] theorem Try.azero61 : azero Try.prog 61 = some (.int .u8 (0)) := by kernel_rfl
@[simp] theorem Try.asize62 : asize Try.prog 62 = some 1 := by kernel_rfl
@[simp] theorem Try.info62 : Try.prog.info? 62 = some Try.t62 := by kernel_rfl
@[simp] theorem Try.tsize62 : Try.t62.size = 1 := by kernel_rfl
@[simp] theorem Try.tbytes62 : Try.t62.bytes = 8 := by kernel_rfl
@[simp] theorem Try.azero62 : azero Try.prog 62 = some (.nilfunc) := by kernel_rfl
@[simp] theorem Try.asize63 : asize Try.prog 63 = some 1 := by kernel_rfl
@[simp] theorem Try.info63 : Try.prog.info? 63 = some Try.t63 := by kernel_rfl
@[simp] theorem Try.tsize63 : Try.t63.size = 1 := by kernel_rfl
@[simp] theorem Try.tbytes63 : Try.t63.bytes = 8 := by kernel_rfl
@[simp] theorem Try.azero63 : azero Try.prog 63 = some (.nilptr) := by kernel_rfl
@[simp] theorem Try.asize64 : asize Try.prog 64 = some 1 := by kernel_rfl
@[simp] theorem Try.info64 : Try.prog.info? 64 = some Try.t64 := by kernel_rfl
@[simp] theorem Try.tsize64 : Try.t64.size = 1 := by kernel_rfl
@[simp] theorem Try.tbytes64 : Try.t64.bytes = 4 := by kernel_rfl
@[simp] theorem Try.azero64 : azero Try.prog 64 = some (.int .i32 (0)) := by kernel_rfl
@[simp] theorem Try.asize65 : asize Try.prog 65 = some 1 := by kernel_rfl
@[simp] theorem Try.info65 : Try.prog.info? 65 = some Try.t65 := by kernel_rfl
@[simp] theorem Try.tsize65 : Try.t65.size = 1 := by kernel_rfl
@[simp] theorem Try.tbytes65 : Try.t65.bytes = 4 := by kernel_rfl
@[simp] theorem Try.azero65 : azero Try.prog 65 = some (.int .i32 (0)) := by kernel_rfl
@[simp] theorem Try.asize66 : asize Try.prog 66 = some 11 := by kernel_rfl
@[simp] theorem Try.info66 : Try.prog.info? 66 = some Try.t66 := by kernel_rfl
@[simp] theorem Try.tsize66 : Try.t66.size = 11 := by kernel_rfl
@[simp] theorem Try.tbytes66 : Try.t66.bytes = 48 := by kernel_rfl
@[simp] theorem Try.azero66 : azero Try.prog 66 = some (.agg [.int .u64 (0), .int .u64 (0), .int .u32 (0), .int .u8 (0), .int .u8 (0), .int .u8 (0), .int .u8 (0), .nilfunc, .nilptr, .int .i32 (0), .int .i32 (0)]) := by kernel_rfl
@[simp] theorem Try.asize67 : asize Try.prog 67 = some 11 := by kernel_rfl
@[simp] theorem Try.info67 : Try.prog.info? 67 = some Try.t67 := by kernel_rfl
@[simp] theorem Try.tsize67 : Try.t67.size = 11 := by kernel_rfl
@[simp] theorem Try.tbytes67 : Try.t67.bytes = 48 := by kernel_rfl
@[simp] theorem Try.azero67 : azero Try.prog 67 = some (.agg [.int .u64 (0), .int .u64 (0), .int .u32 (0), .int .u8 (0), .int .u8 (0), .int .u8 (0), .int .u8 (0), .nilfunc, .nilptr, .int .i32 (0), .int .i32 (0)]) := by kernel_rfl
@[simp] theorem Try.asize68 : asize Try.prog 68 = some 1 := by kernel_rfl
@[simp] theorem Try.info68 : Try.prog.info? 68 = some Try.t68 := by kernel_rfl
@[simp] theorem Try.tsize68 : Try.t68.size = 1 := by kernel_rfl
@[simp] theorem Try.tbytes68 : Try.t68.bytes = 8 := by kernel_rfl
@[simp] theorem Try.azero68 : azero Try.prog 68 = some (.nilptr) := by kernel_rfl
end Go.Proofs
