/-
  Own library of this claim, part 7: texts one behind the other (SyM2).
-/
import Derived.Test.YtenembgjdboakaaGreatDoorLibSynManyF

/-
  SynMany, evaluated, part 2.
-/

namespace Go.Proofs.YtenembgjdboakaaGreatDoor
open Go Go.Abs Go.Lex
set_option maxRecDepth 100000
theorem many2 : ((List.range 4).all fun n => parseOv [.str (repB (n + 29) nodeT)] FH.empty fun v _ => errIs 0 v) = true := by kernel_rfl
theorem many3 : ((List.range 4).all fun n => parseOv [.str (repB (n + 33) nodeT)] FH.empty fun v _ => errIs 2 v) = true := by kernel_rfl
end Go.Proofs.YtenembgjdboakaaGreatDoor
