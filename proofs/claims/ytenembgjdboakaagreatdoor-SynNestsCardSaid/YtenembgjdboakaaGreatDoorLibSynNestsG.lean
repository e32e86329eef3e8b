/-
  Own library of this claim, part 7: texts one behind the other (SyNe2).
-/
import Derived.Test.YtenembgjdboakaaGreatDoorLibSynNestsF

/-
  SynNests, evaluated, part 2.
-/

namespace Go.Proofs.YtenembgjdboakaaGreatDoor
open Go Go.Abs Go.Lex
set_option maxRecDepth 100000
theorem nest3a8 : ((List.range 10).all fun n => parseOv [.str (nestT [97, 32, 43, 32] [] (n + 80))] FH.empty fun v _ => errIs 0 v) = true := by kernel_rfl
theorem nest3a9 : ((List.range 10).all fun n => parseOv [.str (nestT [97, 32, 43, 32] [] (n + 90))] FH.empty fun v _ => errIs 0 v) = true := by kernel_rfl
theorem nest3a10 : ((List.range 10).all fun n => parseOv [.str (nestT [97, 32, 43, 32] [] (n + 100))] FH.empty fun v _ => errIs 0 v) = true := by kernel_rfl
theorem nest3a11 : ((List.range 10).all fun n => parseOv [.str (nestT [97, 32, 43, 32] [] (n + 110))] FH.empty fun v _ => errIs 0 v) = true := by kernel_rfl
end Go.Proofs.YtenembgjdboakaaGreatDoor
