/-
  Own library of this claim, part 11: texts one behind the other (RkL).
-/
import Derived.Test.YtnhomjhfaoipmaaGreatDoorLibRepKnownJ

namespace Go.Proofs.YtnhomjhfaoipmaaGreatDoor
open Go Go.Abs Go.RowKit
set_option maxRecDepth 100000
theorem rruns : fcall knownXk Tryz.prog (Gof tab) 100000 50 3 [] FH.empty yesK = true := by kernel_rfl
end Go.Proofs.YtnhomjhfaoipmaaGreatDoor
