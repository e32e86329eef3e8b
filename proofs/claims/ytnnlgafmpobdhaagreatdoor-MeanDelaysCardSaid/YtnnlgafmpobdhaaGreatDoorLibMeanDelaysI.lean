/-
  Own library of this claim, part 13: texts one behind the other (MnDZ).
-/
import Derived.Test.YtnnlgafmpobdhaaGreatDoorLibMeanDelaysH

/-
  MeanDelays, for whatever arguments.
-/








namespace Go.Proofs.YtnnlgafmpobdhaaGreatDoor
open Go Go.Abs Go.Lex Go.RowKit
set_option maxRecDepth 100000

theorem dfam_all (n : Nat) (hn : n ≤ 20) : DFam n := by
  have h : n = 0 ∨ n = 1 ∨ n = 2 ∨ n = 3 ∨ n = 4 ∨ n = 5 ∨ n = 6 ∨ n = 7 ∨ n = 8 ∨ n = 9 ∨ n = 10 ∨ n = 11 ∨ n = 12 ∨ n = 13 ∨ n = 14 ∨ n = 15 ∨ n = 16 ∨ n = 17 ∨ n = 18 ∨ n = 19 ∨ n = 20 := by omega
  rcases h with rfl | rfl | rfl | rfl | rfl | rfl | rfl | rfl | rfl | rfl | rfl | rfl | rfl | rfl | rfl | rfl | rfl | rfl | rfl | rfl | rfl
  · exact dfam_0
  · exact dfam_1
  · exact dfam_2
  · exact dfam_3
  · exact dfam_4
  · exact dfam_5
  · exact dfam_6
  · exact dfam_7
  · exact dfam_8
  · exact dfam_9
  · exact dfam_10
  · exact dfam_11
  · exact dfam_12
  · exact dfam_13
  · exact dfam_14
  · exact dfam_15
  · exact dfam_16
  · exact dfam_17
  · exact dfam_18
  · exact dfam_19
  · exact dfam_20
theorem delays_any (H : AHeap) (a0 a1 : AV) (s0 : Shp Tryz.prog 8 3 [a0]) (s1 : Shp Tryz.prog 8 30 [a1]) : Does Tryz.prog (Gof tab) 4 [a0, a1] H fun r _ => r = .bool true := by
  obtain ⟨m, x, _, _, h1⟩ := shp_ints Tryz.underlying30 Tryz.underlying2 s1
  unfold Shp at s0
  rw [Tryz.underlying3] at s0
  obtain ⟨n, hn, _⟩ := s0
  cases hn
  exact delays_run dfam_all n x m a1 h1 H
end Go.Proofs.YtnnlgafmpobdhaaGreatDoor
