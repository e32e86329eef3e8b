/-
  Own library of this claim, part 8: texts one behind the other (SyNe3).
-/
import Derived.Test.YtenembgjdboakaaGreatDoorLibSynNestsG

/-
  SynNests, evaluated, part 3.
-/

namespace Go.Proofs.YtenembgjdboakaaGreatDoor
open Go Go.Abs Go.Lex
set_option maxRecDepth 100000
theorem nest3a12 : ((List.range 10).all fun n => parseOv [.str (nestT [97, 32, 43, 32] [] (n + 120))] FH.empty fun v _ => errIs 0 v) = true := by kernel_rfl
theorem nest3a13 : ((List.range 10).all fun n => parseOv [.str (nestT [97, 32, 43, 32] [] (n + 130))] FH.empty fun v _ => errIs 0 v) = true := by kernel_rfl
theorem nest3a14 : ((List.range 10).all fun n => parseOv [.str (nestT [97, 32, 43, 32] [] (n + 140))] FH.empty fun v _ => errIs 0 v) = true := by kernel_rfl
end Go.Proofs.YtenembgjdboakaaGreatDoor
