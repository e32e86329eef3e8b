/-
  Own library of this claim, part 12: texts one behind the other.
-/
import Derived.Test.YtjfgldopgijonaaGreatDoorLibFleetKnownK
set_option maxRecDepth 100000
set_option maxHeartbeats 8000000
set_option linter.unusedVariables false
set_option linter.unusedSimpArgs false
namespace Go.Proofs.YtjfgldopgijonaaGreatDoor
open Go Go.Abs Go.RowKit
theorem rruns : fcall knownXk Tryz.prog (Gof tab) 100000 50 3 [] FH.empty yesK = true := by kernel_rfl
end Go.Proofs.YtjfgldopgijonaaGreatDoor
