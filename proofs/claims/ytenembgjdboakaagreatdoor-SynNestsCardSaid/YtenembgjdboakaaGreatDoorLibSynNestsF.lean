/-
  Own library of this claim, part 6: texts one behind the other (SyNe1).
-/
import Derived.Test.YtenembgjdboakaaGreatDoorLibSynNestsE

/-
  SynNests, evaluated, part 1.
-/

namespace Go.Proofs.YtenembgjdboakaaGreatDoor
open Go Go.Abs Go.Lex
set_option maxRecDepth 100000
theorem nest3a0 : ((List.range 10).all fun n => parseOv [.str (nestT [97, 32, 43, 32] [] (n + 0))] FH.empty fun v _ => errIs 0 v) = true := by kernel_rfl
theorem nest3a1 : ((List.range 10).all fun n => parseOv [.str (nestT [97, 32, 43, 32] [] (n + 10))] FH.empty fun v _ => errIs 0 v) = true := by kernel_rfl
theorem nest3a2 : ((List.range 10).all fun n => parseOv [.str (nestT [97, 32, 43, 32] [] (n + 20))] FH.empty fun v _ => errIs 0 v) = true := by kernel_rfl
theorem nest3a3 : ((List.range 10).all fun n => parseOv [.str (nestT [97, 32, 43, 32] [] (n + 30))] FH.empty fun v _ => errIs 0 v) = true := by kernel_rfl
theorem nest3a4 : ((List.range 10).all fun n => parseOv [.str (nestT [97, 32, 43, 32] [] (n + 40))] FH.empty fun v _ => errIs 0 v) = true := by kernel_rfl
theorem nest3a5 : ((List.range 10).all fun n => parseOv [.str (nestT [97, 32, 43, 32] [] (n + 50))] FH.empty fun v _ => errIs 0 v) = true := by kernel_rfl
theorem nest3a6 : ((List.range 10).all fun n => parseOv [.str (nestT [97, 32, 43, 32] [] (n + 60))] FH.empty fun v _ => errIs 0 v) = true := by kernel_rfl
theorem nest3a7 : ((List.range 10).all fun n => parseOv [.str (nestT [97, 32, 43, 32] [] (n + 70))] FH.empty fun v _ => errIs 0 v) = true := by kernel_rfl
end Go.Proofs.YtenembgjdboakaaGreatDoor
