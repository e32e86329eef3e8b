/-
  Own library of this claim, part 8: texts one behind the other (SyM3).
-/
import Derived.Test.YtenembgjdboakaaGreatDoorLibSynManyG

/-
  SynMany, evaluated, part 3.
-/

namespace Go.Proofs.YtenembgjdboakaaGreatDoor
open Go Go.Abs Go.Lex
set_option maxRecDepth 100000
theorem many4 : ((List.range 4).all fun n => parseOv [.str (repB (n + 37) nodeT)] FH.empty fun v _ => errIs 2 v) = true := by kernel_rfl
def namesT (n : Nat) : Bs := [110, 111, 100, 101, 32, 102, 40, 41, 32, 114, 101, 116, 117, 114, 110, 115, 32, 40] ++ (121 :: repB n [44, 32, 121]) ++ [58, 32, 105, 110, 116, 41, 59, 32, 108, 101, 116, 32, 116, 101, 108]
theorem names1 : ((List.range 64).all fun n => parseOv [.str (namesT n)] FH.empty fun v _ => errIs 0 v) = true := by kernel_rfl
theorem names2 : ((List.range 16).all fun n => parseOv [.str (namesT (n + 64))] FH.empty fun v _ => errIs 2 v) = true := by kernel_rfl
end Go.Proofs.YtenembgjdboakaaGreatDoor
