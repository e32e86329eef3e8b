/-
  Own library of this claim, part 8: texts one behind the other (FmW).
-/
import Derived.Test.YthmnpnbcdoemfaaGreatDoorLibFrontManyG

namespace Go.Proofs.YthmnpnbcdoemfaaGreatDoor
open Go Go.Abs Go.Lex
set_option maxRecDepth 1000000
def rowM (nm op enm : Bs) (p : Nat) (K : AV) (a b qp np : Nat) : List AV :=
  [.str nm, .vsl [.str [120], .int .i64 2, .str [], .bool false, .int .i64 a] 1, .vsl [.str [121], .int .i64 2, .str [], .bool false, .int .i64 b] 1, .vsl [] 0, .vsl (eqC op enm p K qp) 1, .int .i64 np]
def mainF : Nat → List AV
  | 0 => rowM (Syn.nmF 0) Syn.sVar [120] (Syn.posF 0 + 43) .nilsl (Syn.posF 0 + 9) (Syn.posF 0 + 26) (Syn.posF 0 + 39) (Syn.posF 0)
  | i + 1 => rowM (Syn.nmF (i + 1)) Syn.sCall (Syn.nmF i) (Syn.posF (i + 1) + 43) (.vsl (exV (Syn.posF (i + 1) + 47)) 1) (Syn.posF (i + 1) + 9) (Syn.posF (i + 1) + 26) (Syn.posF (i + 1) + 39) (Syn.posF (i + 1))
theorem mnr0 (Q : Option AV → Bool) : fcall knownP Tryz.prog (Gof tab) 100000 300 7 [.vsl (rowsF (0 + 1)) (0 + 1)] FH.empty (fun v H' => Q (v.resN 0 H'.abs.get 1000)) = Q (some (.agg (mainF 0))) := by kernel_rfl
theorem mnr1 (Q : Option AV → Bool) : fcall knownP Tryz.prog (Gof tab) 100000 300 7 [.vsl (rowsF (1 + 1)) (1 + 1)] FH.empty (fun v H' => Q (v.resN 0 H'.abs.get 1000)) = Q (some (.agg (mainF 1))) := by kernel_rfl
theorem mnr2 (Q : Option AV → Bool) : fcall knownP Tryz.prog (Gof tab) 100000 300 7 [.vsl (rowsF (2 + 1)) (2 + 1)] FH.empty (fun v H' => Q (v.resN 0 H'.abs.get 1000)) = Q (some (.agg (mainF 2))) := by kernel_rfl
theorem mnr3 (Q : Option AV → Bool) : fcall knownP Tryz.prog (Gof tab) 100000 300 7 [.vsl (rowsF (3 + 1)) (3 + 1)] FH.empty (fun v H' => Q (v.resN 0 H'.abs.get 1000)) = Q (some (.agg (mainF 3))) := by kernel_rfl
theorem mnr4 (Q : Option AV → Bool) : fcall knownP Tryz.prog (Gof tab) 100000 300 7 [.vsl (rowsF (4 + 1)) (4 + 1)] FH.empty (fun v H' => Q (v.resN 0 H'.abs.get 1000)) = Q (some (.agg (mainF 4))) := by kernel_rfl
theorem mnr5 (Q : Option AV → Bool) : fcall knownP Tryz.prog (Gof tab) 100000 300 7 [.vsl (rowsF (5 + 1)) (5 + 1)] FH.empty (fun v H' => Q (v.resN 0 H'.abs.get 1000)) = Q (some (.agg (mainF 5))) := by kernel_rfl
theorem mnr6 (Q : Option AV → Bool) : fcall knownP Tryz.prog (Gof tab) 100000 300 7 [.vsl (rowsF (6 + 1)) (6 + 1)] FH.empty (fun v H' => Q (v.resN 0 H'.abs.get 1000)) = Q (some (.agg (mainF 6))) := by kernel_rfl
theorem mnr7 (Q : Option AV → Bool) : fcall knownP Tryz.prog (Gof tab) 100000 300 7 [.vsl (rowsF (7 + 1)) (7 + 1)] FH.empty (fun v H' => Q (v.resN 0 H'.abs.get 1000)) = Q (some (.agg (mainF 7))) := by kernel_rfl
theorem mnr8 (Q : Option AV → Bool) : fcall knownP Tryz.prog (Gof tab) 100000 300 7 [.vsl (rowsF (8 + 1)) (8 + 1)] FH.empty (fun v H' => Q (v.resN 0 H'.abs.get 1000)) = Q (some (.agg (mainF 8))) := by kernel_rfl
theorem mnr9 (Q : Option AV → Bool) : fcall knownP Tryz.prog (Gof tab) 100000 300 7 [.vsl (rowsF (9 + 1)) (9 + 1)] FH.empty (fun v H' => Q (v.resN 0 H'.abs.get 1000)) = Q (some (.agg (mainF 9))) := by kernel_rfl
theorem mnr10 (Q : Option AV → Bool) : fcall knownP Tryz.prog (Gof tab) 100000 300 7 [.vsl (rowsF (10 + 1)) (10 + 1)] FH.empty (fun v H' => Q (v.resN 0 H'.abs.get 1000)) = Q (some (.agg (mainF 10))) := by kernel_rfl
theorem mnr11 (Q : Option AV → Bool) : fcall knownP Tryz.prog (Gof tab) 100000 300 7 [.vsl (rowsF (11 + 1)) (11 + 1)] FH.empty (fun v H' => Q (v.resN 0 H'.abs.get 1000)) = Q (some (.agg (mainF 11))) := by kernel_rfl
theorem mnr12 (Q : Option AV → Bool) : fcall knownP Tryz.prog (Gof tab) 100000 300 7 [.vsl (rowsF (12 + 1)) (12 + 1)] FH.empty (fun v H' => Q (v.resN 0 H'.abs.get 1000)) = Q (some (.agg (mainF 12))) := by kernel_rfl
theorem mnr13 (Q : Option AV → Bool) : fcall knownP Tryz.prog (Gof tab) 100000 300 7 [.vsl (rowsF (13 + 1)) (13 + 1)] FH.empty (fun v H' => Q (v.resN 0 H'.abs.get 1000)) = Q (some (.agg (mainF 13))) := by kernel_rfl
theorem mnr14 (Q : Option AV → Bool) : fcall knownP Tryz.prog (Gof tab) 100000 300 7 [.vsl (rowsF (14 + 1)) (14 + 1)] FH.empty (fun v H' => Q (v.resN 0 H'.abs.get 1000)) = Q (some (.agg (mainF 14))) := by kernel_rfl
theorem mnr15 (Q : Option AV → Bool) : fcall knownP Tryz.prog (Gof tab) 100000 300 7 [.vsl (rowsF (15 + 1)) (15 + 1)] FH.empty (fun v H' => Q (v.resN 0 H'.abs.get 1000)) = Q (some (.agg (mainF 15))) := by kernel_rfl
theorem mnr16 (Q : Option AV → Bool) : fcall knownP Tryz.prog (Gof tab) 100000 300 7 [.vsl (rowsF (16 + 1)) (16 + 1)] FH.empty (fun v H' => Q (v.resN 0 H'.abs.get 1000)) = Q (some (.agg (mainF 16))) := by kernel_rfl
theorem mnr17 (Q : Option AV → Bool) : fcall knownP Tryz.prog (Gof tab) 100000 300 7 [.vsl (rowsF (17 + 1)) (17 + 1)] FH.empty (fun v H' => Q (v.resN 0 H'.abs.get 1000)) = Q (some (.agg (mainF 17))) := by kernel_rfl
theorem mnr18 (Q : Option AV → Bool) : fcall knownP Tryz.prog (Gof tab) 100000 300 7 [.vsl (rowsF (18 + 1)) (18 + 1)] FH.empty (fun v H' => Q (v.resN 0 H'.abs.get 1000)) = Q (some (.agg (mainF 18))) := by kernel_rfl
theorem mnr19 (Q : Option AV → Bool) : fcall knownP Tryz.prog (Gof tab) 100000 300 7 [.vsl (rowsF (19 + 1)) (19 + 1)] FH.empty (fun v H' => Q (v.resN 0 H'.abs.get 1000)) = Q (some (.agg (mainF 19))) := by kernel_rfl
theorem mnr20 (Q : Option AV → Bool) : fcall knownP Tryz.prog (Gof tab) 100000 300 7 [.vsl (rowsF (20 + 1)) (20 + 1)] FH.empty (fun v H' => Q (v.resN 0 H'.abs.get 1000)) = Q (some (.agg (mainF 20))) := by kernel_rfl
theorem mnr21 (Q : Option AV → Bool) : fcall knownP Tryz.prog (Gof tab) 100000 300 7 [.vsl (rowsF (21 + 1)) (21 + 1)] FH.empty (fun v H' => Q (v.resN 0 H'.abs.get 1000)) = Q (some (.agg (mainF 21))) := by kernel_rfl
theorem mnr22 (Q : Option AV → Bool) : fcall knownP Tryz.prog (Gof tab) 100000 300 7 [.vsl (rowsF (22 + 1)) (22 + 1)] FH.empty (fun v H' => Q (v.resN 0 H'.abs.get 1000)) = Q (some (.agg (mainF 22))) := by kernel_rfl
theorem mnr23 (Q : Option AV → Bool) : fcall knownP Tryz.prog (Gof tab) 100000 300 7 [.vsl (rowsF (23 + 1)) (23 + 1)] FH.empty (fun v H' => Q (v.resN 0 H'.abs.get 1000)) = Q (some (.agg (mainF 23))) := by kernel_rfl
theorem mnr24 (Q : Option AV → Bool) : fcall knownP Tryz.prog (Gof tab) 100000 300 7 [.vsl (rowsF (24 + 1)) (24 + 1)] FH.empty (fun v H' => Q (v.resN 0 H'.abs.get 1000)) = Q (some (.agg (mainF 24))) := by kernel_rfl
theorem mnr25 (Q : Option AV → Bool) : fcall knownP Tryz.prog (Gof tab) 100000 300 7 [.vsl (rowsF (25 + 1)) (25 + 1)] FH.empty (fun v H' => Q (v.resN 0 H'.abs.get 1000)) = Q (some (.agg (mainF 25))) := by kernel_rfl
theorem mnr26 (Q : Option AV → Bool) : fcall knownP Tryz.prog (Gof tab) 100000 300 7 [.vsl (rowsF (26 + 1)) (26 + 1)] FH.empty (fun v H' => Q (v.resN 0 H'.abs.get 1000)) = Q (some (.agg (mainF 26))) := by kernel_rfl
theorem mnr27 (Q : Option AV → Bool) : fcall knownP Tryz.prog (Gof tab) 100000 300 7 [.vsl (rowsF (27 + 1)) (27 + 1)] FH.empty (fun v H' => Q (v.resN 0 H'.abs.get 1000)) = Q (some (.agg (mainF 27))) := by kernel_rfl
theorem mnr28 (Q : Option AV → Bool) : fcall knownP Tryz.prog (Gof tab) 100000 300 7 [.vsl (rowsF (28 + 1)) (28 + 1)] FH.empty (fun v H' => Q (v.resN 0 H'.abs.get 1000)) = Q (some (.agg (mainF 28))) := by kernel_rfl
theorem mnr29 (Q : Option AV → Bool) : fcall knownP Tryz.prog (Gof tab) 100000 300 7 [.vsl (rowsF (29 + 1)) (29 + 1)] FH.empty (fun v H' => Q (v.resN 0 H'.abs.get 1000)) = Q (some (.agg (mainF 29))) := by kernel_rfl
theorem mnr30 (Q : Option AV → Bool) : fcall knownP Tryz.prog (Gof tab) 100000 300 7 [.vsl (rowsF (30 + 1)) (30 + 1)] FH.empty (fun v H' => Q (v.resN 0 H'.abs.get 1000)) = Q (some (.agg (mainF 30))) := by kernel_rfl
theorem mnr31 (Q : Option AV → Bool) : fcall knownP Tryz.prog (Gof tab) 100000 300 7 [.vsl (rowsF (31 + 1)) (31 + 1)] FH.empty (fun v H' => Q (v.resN 0 H'.abs.get 1000)) = Q (some (.agg (mainF 31))) := by kernel_rfl
theorem mnr (Q : Option AV → Bool) : ∀ i, i < 32 → fcall knownP Tryz.prog (Gof tab) 100000 300 7 [.vsl (rowsF (i + 1)) (i + 1)] FH.empty (fun v H' => Q (v.resN 0 H'.abs.get 1000)) = Q (some (.agg (mainF i)))
  | 0, _ => mnr0 Q
  | 1, _ => mnr1 Q
  | 2, _ => mnr2 Q
  | 3, _ => mnr3 Q
  | 4, _ => mnr4 Q
  | 5, _ => mnr5 Q
  | 6, _ => mnr6 Q
  | 7, _ => mnr7 Q
  | 8, _ => mnr8 Q
  | 9, _ => mnr9 Q
  | 10, _ => mnr10 Q
  | 11, _ => mnr11 Q
  | 12, _ => mnr12 Q
  | 13, _ => mnr13 Q
  | 14, _ => mnr14 Q
  | 15, _ => mnr15 Q
  | 16, _ => mnr16 Q
  | 17, _ => mnr17 Q
  | 18, _ => mnr18 Q
  | 19, _ => mnr19 Q
  | 20, _ => mnr20 Q
  | 21, _ => mnr21 Q
  | 22, _ => mnr22 Q
  | 23, _ => mnr23 Q
  | 24, _ => mnr24 Q
  | 25, _ => mnr25 Q
  | 26, _ => mnr26 Q
  | 27, _ => mnr27 Q
  | 28, _ => mnr28 Q
  | 29, _ => mnr29 Q
  | 30, _ => mnr30 Q
  | 31, _ => mnr31 Q
  | i + 32, h => by omega
theorem mainF_lt (n : Nat) : ∀ i, AV.allLt n (mainF i) = true
  | 0 => rfl
  | _ + 1 => rfl
theorem main_F {i : Nat} (h : i < 32) (H : AHeap) : Does Tryz.prog (Gof tab) 7 [.vsl (rowsF (i + 1)) (i + 1)] H fun r h => r = .agg (mainF i) ∧ h = H :=
  sym_does (fuel := 100000) (n := 300) mixed5 plain5 knownP_good gof_tab5 (by simp [AV.allLt, AV.idLt, rowsF_lt]) (fun Q => mnr Q i h) (fun n => by rw [AV.idLt]; exact mainF_lt n i) H
theorem mainF_is : ∀ i, ∃ c1 c2 c3 c4 c5, mainF i = [.str (Syn.nmF i), c1, c2, c3, c4, c5] ∧ c1.scalar = true ∧ c2.scalar = true ∧ c3.scalar = true ∧ c4.scalar = true ∧ c5.scalar = true
  | 0 => ⟨_, _, _, _, _, rfl, rfl, rfl, rfl, rfl, rfl⟩
  | _ + 1 => ⟨_, _, _, _, _, rfl, rfl, rfl, rfl, rfl, rfl⟩
end Go.Proofs.YthmnpnbcdoemfaaGreatDoor
