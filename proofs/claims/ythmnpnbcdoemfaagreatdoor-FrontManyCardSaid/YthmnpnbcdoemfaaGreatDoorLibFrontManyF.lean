/-
  Own library of this claim, part 6: texts one behind the other (FmS).
-/
import Derived.Test.YthmnpnbcdoemfaaGreatDoorLibFrontManyE

namespace Go.Proofs.YthmnpnbcdoemfaaGreatDoor
open Go Go.Abs Go.Lex
set_option maxRecDepth 1000000
theorem nck0 (R : List AV) (Q : AV → Bool) : heapK [.cells (chkC (rowsF 0 ++ R) 0)] FH.empty (fun H => fcall knownI Tryz.prog (Gof tab) 100000 300 60 [.ptr 0 0] H fun v _ => Q v) = Q (.int .i64 (-1)) := by kernel_rfl
theorem nck1 (R : List AV) (Q : AV → Bool) : heapK [.cells (chkC (rowsF 1 ++ R) 1)] FH.empty (fun H => fcall knownI Tryz.prog (Gof tab) 100000 300 60 [.ptr 0 0] H fun v _ => Q v) = Q (.int .i64 (-1)) := by kernel_rfl
theorem nck2 (R : List AV) (Q : AV → Bool) : heapK [.cells (chkC (rowsF 2 ++ R) 2)] FH.empty (fun H => fcall knownI Tryz.prog (Gof tab) 100000 300 60 [.ptr 0 0] H fun v _ => Q v) = Q (.int .i64 (-1)) := by kernel_rfl
theorem nck3 (R : List AV) (Q : AV → Bool) : heapK [.cells (chkC (rowsF 3 ++ R) 3)] FH.empty (fun H => fcall knownI Tryz.prog (Gof tab) 100000 300 60 [.ptr 0 0] H fun v _ => Q v) = Q (.int .i64 (-1)) := by kernel_rfl
theorem nck4 (R : List AV) (Q : AV → Bool) : heapK [.cells (chkC (rowsF 4 ++ R) 4)] FH.empty (fun H => fcall knownI Tryz.prog (Gof tab) 100000 300 60 [.ptr 0 0] H fun v _ => Q v) = Q (.int .i64 (-1)) := by kernel_rfl
theorem nck5 (R : List AV) (Q : AV → Bool) : heapK [.cells (chkC (rowsF 5 ++ R) 5)] FH.empty (fun H => fcall knownI Tryz.prog (Gof tab) 100000 300 60 [.ptr 0 0] H fun v _ => Q v) = Q (.int .i64 (-1)) := by kernel_rfl
theorem nck6 (R : List AV) (Q : AV → Bool) : heapK [.cells (chkC (rowsF 6 ++ R) 6)] FH.empty (fun H => fcall knownI Tryz.prog (Gof tab) 100000 300 60 [.ptr 0 0] H fun v _ => Q v) = Q (.int .i64 (-1)) := by kernel_rfl
theorem nck7 (R : List AV) (Q : AV → Bool) : heapK [.cells (chkC (rowsF 7 ++ R) 7)] FH.empty (fun H => fcall knownI Tryz.prog (Gof tab) 100000 300 60 [.ptr 0 0] H fun v _ => Q v) = Q (.int .i64 (-1)) := by kernel_rfl
theorem nck8 (R : List AV) (Q : AV → Bool) : heapK [.cells (chkC (rowsF 8 ++ R) 8)] FH.empty (fun H => fcall knownI Tryz.prog (Gof tab) 100000 300 60 [.ptr 0 0] H fun v _ => Q v) = Q (.int .i64 (-1)) := by kernel_rfl
theorem nck9 (R : List AV) (Q : AV → Bool) : heapK [.cells (chkC (rowsF 9 ++ R) 9)] FH.empty (fun H => fcall knownI Tryz.prog (Gof tab) 100000 300 60 [.ptr 0 0] H fun v _ => Q v) = Q (.int .i64 (-1)) := by kernel_rfl
theorem nck10 (R : List AV) (Q : AV → Bool) : heapK [.cells (chkC (rowsF 10 ++ R) 10)] FH.empty (fun H => fcall knownI Tryz.prog (Gof tab) 100000 300 60 [.ptr 0 0] H fun v _ => Q v) = Q (.int .i64 (-1)) := by kernel_rfl
theorem nck11 (R : List AV) (Q : AV → Bool) : heapK [.cells (chkC (rowsF 11 ++ R) 11)] FH.empty (fun H => fcall knownI Tryz.prog (Gof tab) 100000 300 60 [.ptr 0 0] H fun v _ => Q v) = Q (.int .i64 (-1)) := by kernel_rfl
theorem nck12 (R : List AV) (Q : AV → Bool) : heapK [.cells (chkC (rowsF 12 ++ R) 12)] FH.empty (fun H => fcall knownI Tryz.prog (Gof tab) 100000 300 60 [.ptr 0 0] H fun v _ => Q v) = Q (.int .i64 (-1)) := by kernel_rfl
theorem nck13 (R : List AV) (Q : AV → Bool) : heapK [.cells (chkC (rowsF 13 ++ R) 13)] FH.empty (fun H => fcall knownI Tryz.prog (Gof tab) 100000 300 60 [.ptr 0 0] H fun v _ => Q v) = Q (.int .i64 (-1)) := by kernel_rfl
theorem nck14 (R : List AV) (Q : AV → Bool) : heapK [.cells (chkC (rowsF 14 ++ R) 14)] FH.empty (fun H => fcall knownI Tryz.prog (Gof tab) 100000 300 60 [.ptr 0 0] H fun v _ => Q v) = Q (.int .i64 (-1)) := by kernel_rfl
theorem nck15 (R : List AV) (Q : AV → Bool) : heapK [.cells (chkC (rowsF 15 ++ R) 15)] FH.empty (fun H => fcall knownI Tryz.prog (Gof tab) 100000 300 60 [.ptr 0 0] H fun v _ => Q v) = Q (.int .i64 (-1)) := by kernel_rfl
theorem nck16 (R : List AV) (Q : AV → Bool) : heapK [.cells (chkC (rowsF 16 ++ R) 16)] FH.empty (fun H => fcall knownI Tryz.prog (Gof tab) 100000 300 60 [.ptr 0 0] H fun v _ => Q v) = Q (.int .i64 (-1)) := by kernel_rfl
theorem nck17 (R : List AV) (Q : AV → Bool) : heapK [.cells (chkC (rowsF 17 ++ R) 17)] FH.empty (fun H => fcall knownI Tryz.prog (Gof tab) 100000 300 60 [.ptr 0 0] H fun v _ => Q v) = Q (.int .i64 (-1)) := by kernel_rfl
theorem nck18 (R : List AV) (Q : AV → Bool) : heapK [.cells (chkC (rowsF 18 ++ R) 18)] FH.empty (fun H => fcall knownI Tryz.prog (Gof tab) 100000 300 60 [.ptr 0 0] H fun v _ => Q v) = Q (.int .i64 (-1)) := by kernel_rfl
theorem nck19 (R : List AV) (Q : AV → Bool) : heapK [.cells (chkC (rowsF 19 ++ R) 19)] FH.empty (fun H => fcall knownI Tryz.prog (Gof tab) 100000 300 60 [.ptr 0 0] H fun v _ => Q v) = Q (.int .i64 (-1)) := by kernel_rfl
theorem nck20 (R : List AV) (Q : AV → Bool) : heapK [.cells (chkC (rowsF 20 ++ R) 20)] FH.empty (fun H => fcall knownI Tryz.prog (Gof tab) 100000 300 60 [.ptr 0 0] H fun v _ => Q v) = Q (.int .i64 (-1)) := by kernel_rfl
theorem nck21 (R : List AV) (Q : AV → Bool) : heapK [.cells (chkC (rowsF 21 ++ R) 21)] FH.empty (fun H => fcall knownI Tryz.prog (Gof tab) 100000 300 60 [.ptr 0 0] H fun v _ => Q v) = Q (.int .i64 (-1)) := by kernel_rfl
theorem nck22 (R : List AV) (Q : AV → Bool) : heapK [.cells (chkC (rowsF 22 ++ R) 22)] FH.empty (fun H => fcall knownI Tryz.prog (Gof tab) 100000 300 60 [.ptr 0 0] H fun v _ => Q v) = Q (.int .i64 (-1)) := by kernel_rfl
theorem nck23 (R : List AV) (Q : AV → Bool) : heapK [.cells (chkC (rowsF 23 ++ R) 23)] FH.empty (fun H => fcall knownI Tryz.prog (Gof tab) 100000 300 60 [.ptr 0 0] H fun v _ => Q v) = Q (.int .i64 (-1)) := by kernel_rfl
theorem nck24 (R : List AV) (Q : AV → Bool) : heapK [.cells (chkC (rowsF 24 ++ R) 24)] FH.empty (fun H => fcall knownI Tryz.prog (Gof tab) 100000 300 60 [.ptr 0 0] H fun v _ => Q v) = Q (.int .i64 (-1)) := by kernel_rfl
theorem nck25 (R : List AV) (Q : AV → Bool) : heapK [.cells (chkC (rowsF 25 ++ R) 25)] FH.empty (fun H => fcall knownI Tryz.prog (Gof tab) 100000 300 60 [.ptr 0 0] H fun v _ => Q v) = Q (.int .i64 (-1)) := by kernel_rfl
theorem nck26 (R : List AV) (Q : AV → Bool) : heapK [.cells (chkC (rowsF 26 ++ R) 26)] FH.empty (fun H => fcall knownI Tryz.prog (Gof tab) 100000 300 60 [.ptr 0 0] H fun v _ => Q v) = Q (.int .i64 (-1)) := by kernel_rfl
theorem nck27 (R : List AV) (Q : AV → Bool) : heapK [.cells (chkC (rowsF 27 ++ R) 27)] FH.empty (fun H => fcall knownI Tryz.prog (Gof tab) 100000 300 60 [.ptr 0 0] H fun v _ => Q v) = Q (.int .i64 (-1)) := by kernel_rfl
theorem nck28 (R : List AV) (Q : AV → Bool) : heapK [.cells (chkC (rowsF 28 ++ R) 28)] FH.empty (fun H => fcall knownI Tryz.prog (Gof tab) 100000 300 60 [.ptr 0 0] H fun v _ => Q v) = Q (.int .i64 (-1)) := by kernel_rfl
theorem nck29 (R : List AV) (Q : AV → Bool) : heapK [.cells (chkC (rowsF 29 ++ R) 29)] FH.empty (fun H => fcall knownI Tryz.prog (Gof tab) 100000 300 60 [.ptr 0 0] H fun v _ => Q v) = Q (.int .i64 (-1)) := by kernel_rfl
theorem nck30 (R : List AV) (Q : AV → Bool) : heapK [.cells (chkC (rowsF 30 ++ R) 30)] FH.empty (fun H => fcall knownI Tryz.prog (Gof tab) 100000 300 60 [.ptr 0 0] H fun v _ => Q v) = Q (.int .i64 (-1)) := by kernel_rfl
theorem nck31 (R : List AV) (Q : AV → Bool) : heapK [.cells (chkC (rowsF 31 ++ R) 31)] FH.empty (fun H => fcall knownI Tryz.prog (Gof tab) 100000 300 60 [.ptr 0 0] H fun v _ => Q v) = Q (.int .i64 (-1)) := by kernel_rfl
theorem nck (R : List AV) (Q : AV → Bool) : ∀ i, i < 32 → heapK [.cells (chkC (rowsF i ++ R) i)] FH.empty (fun H => fcall knownI Tryz.prog (Gof tab) 100000 300 60 [.ptr 0 0] H fun v _ => Q v) = Q (.int .i64 (-1))
  | 0, _ => nck0 R Q
  | 1, _ => nck1 R Q
  | 2, _ => nck2 R Q
  | 3, _ => nck3 R Q
  | 4, _ => nck4 R Q
  | 5, _ => nck5 R Q
  | 6, _ => nck6 R Q
  | 7, _ => nck7 R Q
  | 8, _ => nck8 R Q
  | 9, _ => nck9 R Q
  | 10, _ => nck10 R Q
  | 11, _ => nck11 R Q
  | 12, _ => nck12 R Q
  | 13, _ => nck13 R Q
  | 14, _ => nck14 R Q
  | 15, _ => nck15 R Q
  | 16, _ => nck16 R Q
  | 17, _ => nck17 R Q
  | 18, _ => nck18 R Q
  | 19, _ => nck19 R Q
  | 20, _ => nck20 R Q
  | 21, _ => nck21 R Q
  | 22, _ => nck22 R Q
  | 23, _ => nck23 R Q
  | 24, _ => nck24 R Q
  | 25, _ => nck25 R Q
  | 26, _ => nck26 R Q
  | 27, _ => nck27 R Q
  | 28, _ => nck28 R Q
  | 29, _ => nck29 R Q
  | 30, _ => nck30 R Q
  | 31, _ => nck31 R Q
  | i + 32, h => by omega
end Go.Proofs.YthmnpnbcdoemfaaGreatDoor
