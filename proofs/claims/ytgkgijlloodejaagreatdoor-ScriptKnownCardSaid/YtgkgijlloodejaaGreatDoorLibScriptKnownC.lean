/-
  Own library of this claim, part 3: texts one behind the other (TiC).
-/
import Derived.Test.YtgkgijlloodejaaGreatDoorRows
import Derived.LaidByTextLater
import Derived.SevenTiedAt

/-
  One fact of the variables' tie to the text of the program, by the kernel.
-/



namespace Go.Proofs.YtgkgijlloodejaaGreatDoor
open Go
theorem tie_g : ∀ os tape, varsDone Tryz.prog 400 (varsId Tryz.prog) os tape = true := fun _ _ => by kernel_rfl
end Go.Proofs.YtgkgijlloodejaaGreatDoor
