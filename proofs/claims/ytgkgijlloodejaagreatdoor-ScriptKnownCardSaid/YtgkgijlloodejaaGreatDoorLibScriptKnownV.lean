/-
  Own library of this claim, part 22: texts one behind the other (SkK).
-/
import Derived.Test.YtgkgijlloodejaaGreatDoorLibScriptKnownT
import Derived.Test.YtgkgijlloodejaaGreatDoorLibScriptKnownU
set_option linter.unusedVariables false
set_option linter.unusedSimpArgs false

/-
  ScriptKnown's call, evaluated.
-/


namespace Go.Proofs.YtgkgijlloodejaaGreatDoor
open Go Go.Abs Go.RowKit
set_option maxRecDepth 100000

noncomputable def knownXk : Ov := ovAdd 5 (litOv [([.str skT0], skA0), ([.str skT1], skA1), ([.str skT2], skA2), ([.str skT3], skA3), ([.str skT4], skA4)]) knownSe
theorem knownXk_good : OvGoodK Tryz.prog (Gof tab) knownXk := ovAdd_good (litOv_good fun e he H => by
  simp only [List.mem_cons, List.not_mem_nil, or_false] at he
  rcases he with rfl | rfl | rfl | rfl | rfl
  · exact skRun0 H
  · exact skRun1 H
  · exact skRun2 H
  · exact skRun3 H
  · exact skRun4 H) knownSe_good
theorem rruns : fcall knownXk Tryz.prog (Gof tab) 100000 50 3 [] FH.empty yesK = true := by kernel_rfl
end Go.Proofs.YtgkgijlloodejaaGreatDoor
