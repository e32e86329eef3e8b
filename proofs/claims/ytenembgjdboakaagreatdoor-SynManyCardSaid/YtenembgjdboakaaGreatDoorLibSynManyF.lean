/-
  Own library of this claim, part 6: texts one behind the other (SyM1).
-/
import Derived.Test.YtenembgjdboakaaGreatDoorLibSynManyE

/-
  SynMany, evaluated, part 1.
-/

namespace Go.Proofs.YtenembgjdboakaaGreatDoor
open Go Go.Abs Go.Lex
set_option maxRecDepth 100000
theorem many1 : ((List.range 28).all fun n => parseOv [.str (repB (n + 1) nodeT)] FH.empty fun v _ => errIs 0 v) = true := by kernel_rfl
end Go.Proofs.YtenembgjdboakaaGreatDoor
