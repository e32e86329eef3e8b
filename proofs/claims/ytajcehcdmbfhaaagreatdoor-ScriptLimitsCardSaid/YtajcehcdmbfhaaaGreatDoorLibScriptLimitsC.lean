/-
  Own library of this claim, part 17: texts one behind the other (TiC).
-/
import Derived.Test.YtajcehcdmbfhaaaGreatDoorRows
import Derived.LaidByTextLater
import Derived.SevenTiedAt
set_option linter.unusedVariables false
set_option linter.unusedSimpArgs false

/-
  One fact of the variables' tie to the text of the program, by the kernel.
-/



namespace Go.Proofs.YtajcehcdmbfhaaaGreatDoor
open Go
theorem tie_g : ∀ os tape, varsDone Tryz.prog 400 (varsId Tryz.prog) os tape = true := fun _ _ => by kernel_rfl
end Go.Proofs.YtajcehcdmbfhaaaGreatDoor
