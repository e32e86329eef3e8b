/-
  Own library of this claim, part 5: texts one behind the other (MnSu, MnSuM, MnSuL).
-/
import Derived.Test.YtnnlgafmpobdhaaGreatDoorLibD

/-
  A program's machine, known by the evaluator: node sum(x: int) returns (y: int); let y = x + (0 fby y); tel node f(c: bool; x: int) returns (y: int); let y = merge c sum(x when c) sum(x when not c); tel
-/

namespace Go.Proofs.YtnnlgafmpobdhaaGreatDoor
open Go Go.Abs Go.RowKit
set_option maxRecDepth 100000
set_option linter.unusedVariables false

def sutext : List UInt8 := [110,111,100,101,32,115,117,109,40,120,58,32,105,110,116,41,32,114,101,116,117,114,110,115,32,40,121,58,32,105,110,116,41,59,32,108,101,116,32,121,32,61,32,120,32,43,32,40,48,32,102,98,121,32,121,41,59,32,116,101,108,32,110,111,100,101,32,102,40,99,58,32,98,111,111,108,59,32,120,58,32,105,110,116,41,32,114,101,116,117,114,110,115,32,40,121,58,32,105,110,116,41,59,32,108,101,116,32,121,32,61,32,109,101,114,103,101,32,99,32,115,117,109,40,120,32,119,104,101,110,32,99,41,32,115,117,109,40,120,32,119,104,101,110,32,110,111,116,32,99,41,59,32,116,101,108]
def sucells : List AV := [.str [115,117,109], .vsl [.str [120], .int .i64 2, .str [], .bool false, .int .i64 9] 1, .vsl [.str [121], .int .i64 2, .str [], .bool false, .int .i64 26] 1, .nilsl, .vsl [.str [121], .str [43], .str [], .int .i64 0, .int .i64 45, .vsl [.str [118,97,114], .str [120], .int .i64 0, .int .i64 43, .nilsl, .str [102,98,121], .str [], .int .i64 0, .int .i64 50, .vsl [.str [105,110,116], .str [], .int .i64 0, .int .i64 48, .nilsl, .str [118,97,114], .str [121], .int .i64 0, .int .i64 54, .nilsl] 2] 2, .int .i64 39] 1, .int .i64 0, .str [102], .vsl [.str [99], .int .i64 1, .str [], .bool false, .int .i64 69, .str [120], .int .i64 2, .str [], .bool false, .int .i64 78] 2, .vsl [.str [121], .int .i64 2, .str [], .bool false, .int .i64 95] 1, .nilsl, .vsl [.str [121], .str [109,101,114,103,101], .str [99], .int .i64 0, .int .i64 112, .vsl [.str [99,97,108,108], .str [115,117,109], .int .i64 0, .int .i64 120, .vsl [.str [119,104,101,110], .str [99], .int .i64 1, .int .i64 126, .vsl [.str [118,97,114], .str [120], .int .i64 0, .int .i64 124, .nilsl] 1] 1, .str [99,97,108,108], .str [115,117,109], .int .i64 0, .int .i64 134, .vsl [.str [119,104,101,110], .str [99], .int .i64 0, .int .i64 140, .vsl [.str [118,97,114], .str [120], .int .i64 0, .int .i64 138, .nilsl] 1] 1] 2, .int .i64 108] 1, .int .i64 62]
def sunodes : AV := .vsl sucells 2
def suok : AV := .agg [.int .i64 0, .int .i64 0]
def sulit : AV := .tuple [sunodes, suok]
def suins : AV := .vsl [.str [99], .int .i64 1, .str [], .bool false, .int .i64 69, .str [120], .int .i64 2, .str [], .bool false, .int .i64 78] 2
def sumain : AV := .agg [.str [102], suins, .vsl [.str [121], .int .i64 2, .str [], .bool false, .int .i64 95] 1, .vsl [] 0, .vsl [.str [121], .str [109,101,114,103,101], .str [99], .int .i64 0, .int .i64 112, .vsl [.str [99,97,108,108], .str [115,117,109], .int .i64 0, .int .i64 120, .vsl [.str [119,104,101,110], .str [99], .int .i64 1, .int .i64 126, .vsl [.str [118,97,114], .str [120], .int .i64 0, .int .i64 124, .nilsl] 1] 1, .str [99,97,108,108], .str [115,117,109], .int .i64 0, .int .i64 134, .vsl [.str [119,104,101,110], .str [99], .int .i64 0, .int .i64 140, .vsl [.str [118,97,114], .str [120], .int .i64 0, .int .i64 138, .nilsl] 1] 1] 2, .int .i64 108] 1, .int .i64 62]
theorem suparse_run : fcall knownW Tryz.prog (Gof tab) 100000 300 18 [.str sutext] FH.empty (litK sulit) = true := by kernel_rfl
theorem suparse (H : AHeap) : Does Tryz.prog (Gof tab) 18 [.str sutext] H fun r h => r = sulit ∧ h = H :=
  lit_does nmixed nplain knownW_good ngof (by kernel_rfl) (by kernel_rfl) suparse_run H
theorem sutree_run : fcall knownW Tryz.prog (Gof tab) 100000 300 19 [sunodes] FH.empty (litK suok) = true := by kernel_rfl
theorem sutree (H : AHeap) : Does Tryz.prog (Gof tab) 19 [sunodes] H fun r h => r = suok ∧ h = H :=
  lit_does nmixed nplain knownW_good ngof (by kernel_rfl) (by kernel_rfl) sutree_run H
noncomputable def suknown : Ov := ovAdd 18 (litOv [([.str sutext], sulit)]) (ovAdd 19 (litOv [([sunodes], suok)]) knownW)
theorem suknown_good : OvGoodK Tryz.prog (Gof tab) suknown := ovAdd_good (litOv_good fun e he H => by
  simp only [List.mem_cons, List.not_mem_nil, or_false] at he
  subst he
  exact suparse H) (ovAdd_good (litOv_good fun e he H => by
  simp only [List.mem_cons, List.not_mem_nil, or_false] at he
  subst he
  exact sutree H) knownW_good)
theorem sucheck_run : fcall suknown Tryz.prog (Gof tab) 100000 300 15 [.str sutext] FH.empty (litK sulit) = true := by kernel_rfl
theorem sucheck (H : AHeap) : Does Tryz.prog (Gof tab) 15 [.str sutext] H fun r h => r = sulit ∧ h = H :=
  lit_does nmixed nplain suknown_good ngof (by kernel_rfl) (by kernel_rfl) sucheck_run H
theorem sumain_run : fcall knownW Tryz.prog (Gof tab) 100000 300 20 [sunodes] FH.empty (litK sumain) = true := by kernel_rfl
theorem sumain_does (H : AHeap) : Does Tryz.prog (Gof tab) 20 [sunodes] H fun r h => r = sumain ∧ h = H :=
  lit_does nmixed nplain knownW_good ngof (by kernel_rfl) (by kernel_rfl) sumain_run H
theorem sucount_run : fcall knownW Tryz.prog (Gof tab) 100000 300 22 [sunodes] FH.empty (litK (.int .i64 3)) = true := by kernel_rfl
theorem sucount (H : AHeap) : Does Tryz.prog (Gof tab) 22 [sunodes] H fun r h => r = .int .i64 3 ∧ h = H :=
  lit_does nmixed nplain knownW_good ngof (by kernel_rfl) (by kernel_rfl) sucount_run H

def suG0 (p0 p1 p2 p3 p4 p5 p6 p7 p8 p9 p10 p11 p12 p13 p14 p15 p16 p17 p18 p19 p20 p21 p22 p23 p24 p25 p26 p27 p28 p29 p30 p31 p32 p33 : Int) : List AObj := [
  .cells [.str [102], .sl 1 0 5 2 2 true, .sl 2 0 5 1 1 true, .sl 3 0 5 0 0 false, .sl 4 0 7 1 1 true, .int .i64 62, .sl 5 0 1 1 1 true, .map 6, .map 7, .nilsl],
  .cells [.str [99], .int .i64 1, .str [], .bool false, .int .i64 69, .str [120], .int .i64 2, .str [], .bool false, .int .i64 78],
  .cells [.str [121], .int .i64 2, .str [], .bool false, .int .i64 95],
  .cells [],
  .cells [.str [121], .str [109,101,114,103,101], .str [99], .int .i64 0, .int .i64 112, .sl 8 0 5 2 2 true, .int .i64 108],
  .cells [.str [121]],
  .map [(.str [121], .ptr 9 0)],
  .map [],
  .cells [.str [99,97,108,108], .str [115,117,109], .int .i64 0, .int .i64 120, .sl 10 0 5 1 1 true, .str [99,97,108,108], .str [115,117,109], .int .i64 0, .int .i64 134, .sl 11 0 5 1 1 true],
  .cells [.str [109,101,114,103,101], .str [99], .int .i64 0, .int .i64 112, .nilsl, .nilsl, .sl 12 0 8 2 2 true, .bool false, .sl 13 0 1 2 2 true, .nilptr, .bool false, .int .i64 p0, .int .i64 p1],
  .cells [.str [119,104,101,110], .str [99], .int .i64 1, .int .i64 126, .sl 14 0 5 1 1 true],
  .cells [.str [119,104,101,110], .str [99], .int .i64 0, .int .i64 140, .sl 15 0 5 1 1 true],
  .cells [.str [99,97,108,108], .str [115,117,109], .int .i64 0, .int .i64 120, .nilsl, .sl 16 0 2 1 1 true, .sl 17 0 8 1 1 true, .bool false, .str [99,97,108,108], .str [115,117,109], .int .i64 0, .int .i64 134, .nilsl, .sl 18 0 2 1 1 true, .sl 19 0 8 1 1 true, .bool false],
  .cells [.ptr 20 0, .ptr 21 0],
  .cells [.str [118,97,114], .str [120], .int .i64 0, .int .i64 124, .nilsl],
  .cells [.str [118,97,114], .str [120], .int .i64 0, .int .i64 138, .nilsl],
  .cells [.str [99], .bool false],
  .cells [.str [119,104,101,110], .str [99], .int .i64 1, .int .i64 126, .nilsl, .sl 16 0 2 1 1 true, .sl 22 0 8 1 1 true, .bool false],
  .cells [.str [99], .bool true],
  .cells [.str [119,104,101,110], .str [99], .int .i64 0, .int .i64 140, .nilsl, .sl 18 0 2 1 1 true, .sl 23 0 8 1 1 true, .bool false],
  .cells [.str [99,97,108,108], .str [115,117,109], .int .i64 0, .int .i64 120, .nilsl, .sl 16 0 2 1 1 true, .sl 17 0 8 1 1 true, .bool false, .sl 24 0 1 1 1 true, .ptr 25 0, .bool false, .int .i64 p2, .int .i64 p3],
  .cells [.str [99,97,108,108], .str [115,117,109], .int .i64 0, .int .i64 134, .nilsl, .sl 18 0 2 1 1 true, .sl 19 0 8 1 1 true, .bool false, .sl 26 0 1 1 1 true, .ptr 27 0, .bool false, .int .i64 p4, .int .i64 p5],
  .cells [.str [118,97,114], .str [120], .int .i64 0, .int .i64 124, .nilsl, .nilsl, .nilsl, .bool false],
  .cells [.str [118,97,114], .str [120], .int .i64 0, .int .i64 138, .nilsl, .nilsl, .nilsl, .bool false],
  .cells [.ptr 28 0],
  .cells [.str [115,117,109], .sl 29 0 5 1 1 true, .sl 30 0 5 1 1 true, .sl 31 0 5 0 0 false, .sl 32 0 7 1 1 true, .int .i64 0, .sl 33 0 1 1 1 true, .map 34, .map 35, .nilsl],
  .cells [.ptr 36 0],
  .cells [.str [115,117,109], .sl 37 0 5 1 1 true, .sl 38 0 5 1 1 true, .sl 39 0 5 0 0 false, .sl 40 0 7 1 1 true, .int .i64 0, .sl 41 0 1 1 1 true, .map 42, .map 43, .nilsl],
  .cells [.str [119,104,101,110], .str [99], .int .i64 1, .int .i64 126, .nilsl, .sl 16 0 2 1 1 true, .sl 22 0 8 1 1 true, .bool false, .sl 44 0 1 1 1 true, .nilptr, .bool false, .int .i64 p6, .int .i64 p7],
  .cells [.str [120], .int .i64 2, .str [], .bool false, .int .i64 9],
  .cells [.str [121], .int .i64 2, .str [], .bool false, .int .i64 26],
  .cells [],
  .cells [.str [121], .str [43], .str [], .int .i64 0, .int .i64 45, .sl 45 0 5 2 2 true, .int .i64 39],
  .cells [.str [121]],
  .map [(.str [121], .ptr 46 0)],
  .map [],
  .cells [.str [119,104,101,110], .str [99], .int .i64 0, .int .i64 140, .nilsl, .sl 18 0 2 1 1 true, .sl 23 0 8 1 1 true, .bool false, .sl 47 0 1 1 1 true, .nilptr, .bool false, .int .i64 p8, .int .i64 p9],
  .cells [.str [120], .int .i64 2, .str [], .bool false, .int .i64 9],
  .cells [.str [121], .int .i64 2, .str [], .bool false, .int .i64 26],
  .cells [],
  .cells [.str [121], .str [43], .str [], .int .i64 0, .int .i64 45, .sl 48 0 5 2 2 true, .int .i64 39],
  .cells [.str [121]],
  .map [(.str [121], .ptr 49 0)],
  .map [],
  .cells [.ptr 50 0],
  .cells [.str [118,97,114], .str [120], .int .i64 0, .int .i64 43, .nilsl, .str [102,98,121], .str [], .int .i64 0, .int .i64 50, .sl 51 0 5 2 2 true],
  .cells [.str [43], .str [], .int .i64 0, .int .i64 45, .nilsl, .nilsl, .sl 52 0 8 2 2 true, .bool false, .sl 53 0 1 2 2 true, .nilptr, .bool false, .int .i64 p10, .int .i64 p11],
  .cells [.ptr 54 0],
  .cells [.str [118,97,114], .str [120], .int .i64 0, .int .i64 43, .nilsl, .str [102,98,121], .str [], .int .i64 0, .int .i64 50, .sl 55 0 5 2 2 true],
  .cells [.str [43], .str [], .int .i64 0, .int .i64 45, .nilsl, .nilsl, .sl 56 0 8 2 2 true, .bool false, .sl 57 0 1 2 2 true, .nilptr, .bool false, .int .i64 p12, .int .i64 p13],
  .cells [.str [118,97,114], .str [120], .int .i64 0, .int .i64 124, .nilsl, .nilsl, .nilsl, .bool false, .nilsl, .nilptr, .bool false, .int .i64 p14, .int .i64 p15],
  .cells [.str [105,110,116], .str [], .int .i64 0, .int .i64 48, .nilsl, .str [118,97,114], .str [121], .int .i64 0, .int .i64 54, .nilsl],
  .cells [.str [118,97,114], .str [120], .int .i64 0, .int .i64 43, .nilsl, .nilsl, .nilsl, .bool false, .str [102,98,121], .str [], .int .i64 0, .int .i64 50, .nilsl, .nilsl, .sl 58 0 8 2 2 true, .bool false],
  .cells [.ptr 59 0, .ptr 60 0],
  .cells [.str [118,97,114], .str [120], .int .i64 0, .int .i64 138, .nilsl, .nilsl, .nilsl, .bool false, .nilsl, .nilptr, .bool false, .int .i64 p16, .int .i64 p17],
  .cells [.str [105,110,116], .str [], .int .i64 0, .int .i64 48, .nilsl, .str [118,97,114], .str [121], .int .i64 0, .int .i64 54, .nilsl],
  .cells [.str [118,97,114], .str [120], .int .i64 0, .int .i64 43, .nilsl, .nilsl, .nilsl, .bool false, .str [102,98,121], .str [], .int .i64 0, .int .i64 50, .nilsl, .nilsl, .sl 61 0 8 2 2 true, .bool false],
  .cells [.ptr 62 0, .ptr 63 0],
  .cells [.str [105,110,116], .str [], .int .i64 0, .int .i64 48, .nilsl, .nilsl, .nilsl, .bool true, .str [118,97,114], .str [121], .int .i64 0, .int .i64 54, .nilsl, .nilsl, .nilsl, .bool false],
  .cells [.str [118,97,114], .str [120], .int .i64 0, .int .i64 43, .nilsl, .nilsl, .nilsl, .bool false, .nilsl, .nilptr, .bool false, .int .i64 p18, .int .i64 p19],
  .cells [.str [102,98,121], .str [], .int .i64 0, .int .i64 50, .nilsl, .nilsl, .sl 58 0 8 2 2 true, .bool false, .sl 64 0 1 2 2 true, .nilptr, .bool false, .int .i64 p20, .int .i64 p21],
  .cells [.str [105,110,116], .str [], .int .i64 0, .int .i64 48, .nilsl, .nilsl, .nilsl, .bool true, .str [118,97,114], .str [121], .int .i64 0, .int .i64 54, .nilsl, .nilsl, .nilsl, .bool false],
  .cells [.str [118,97,114], .str [120], .int .i64 0, .int .i64 43, .nilsl, .nilsl, .nilsl, .bool false, .nilsl, .nilptr, .bool false, .int .i64 p22, .int .i64 p23],
  .cells [.str [102,98,121], .str [], .int .i64 0, .int .i64 50, .nilsl, .nilsl, .sl 61 0 8 2 2 true, .bool false, .sl 65 0 1 2 2 true, .nilptr, .bool false, .int .i64 p24, .int .i64 p25],
  .cells [.ptr 66 0, .ptr 67 0],
  .cells [.ptr 68 0, .ptr 69 0],
  .cells [.str [105,110,116], .str [], .int .i64 0, .int .i64 48, .nilsl, .nilsl, .nilsl, .bool true, .nilsl, .nilptr, .bool false, .int .i64 p26, .int .i64 p27],
  .cells [.str [118,97,114], .str [121], .int .i64 0, .int .i64 54, .nilsl, .nilsl, .nilsl, .bool false, .nilsl, .nilptr, .bool false, .int .i64 p28, .int .i64 p29],
  .cells [.str [105,110,116], .str [], .int .i64 0, .int .i64 48, .nilsl, .nilsl, .nilsl, .bool true, .nilsl, .nilptr, .bool false, .int .i64 p30, .int .i64 p31],
  .cells [.str [118,97,114], .str [121], .int .i64 0, .int .i64 54, .nilsl, .nilsl, .nilsl, .bool false, .nilsl, .nilptr, .bool false, .int .i64 p32, .int .i64 p33]]
def suG1 (p0 p1 p2 p3 p4 p5 p6 p7 p8 p9 p10 p11 p12 p13 p14 p15 p16 p17 p18 p19 p20 p21 p22 p23 p24 p25 p26 p27 p28 p29 p30 p31 p32 p33 p34 p35 p36 p37 p38 : Int) : List AObj := [
  .cells [.str [102], .sl 1 0 5 2 2 true, .sl 2 0 5 1 1 true, .sl 3 0 5 0 0 false, .sl 4 0 7 1 1 true, .int .i64 62, .sl 5 0 1 1 1 true, .map 6, .map 7, .nilsl],
  .cells [.str [99], .int .i64 1, .str [], .bool false, .int .i64 69, .str [120], .int .i64 2, .str [], .bool false, .int .i64 78],
  .cells [.str [121], .int .i64 2, .str [], .bool false, .int .i64 95],
  .cells [],
  .cells [.str [121], .str [109,101,114,103,101], .str [99], .int .i64 0, .int .i64 112, .sl 8 0 5 2 2 true, .int .i64 108],
  .cells [.str [121]],
  .map [(.str [121], .ptr 9 0)],
  .map [(.str [99], .int .i64 p0), (.str [120], .int .i64 p1), (.str [121], .int .i64 p2)],
  .cells [.str [99,97,108,108], .str [115,117,109], .int .i64 0, .int .i64 120, .sl 10 0 5 1 1 true, .str [99,97,108,108], .str [115,117,109], .int .i64 0, .int .i64 134, .sl 11 0 5 1 1 true],
  .cells [.str [109,101,114,103,101], .str [99], .int .i64 0, .int .i64 112, .nilsl, .nilsl, .sl 12 0 8 2 2 true, .bool false, .sl 13 0 1 2 2 true, .nilptr, .bool false, .int .i64 p3, .int .i64 p4],
  .cells [.str [119,104,101,110], .str [99], .int .i64 1, .int .i64 126, .sl 14 0 5 1 1 true],
  .cells [.str [119,104,101,110], .str [99], .int .i64 0, .int .i64 140, .sl 15 0 5 1 1 true],
  .cells [.str [99,97,108,108], .str [115,117,109], .int .i64 0, .int .i64 120, .nilsl, .sl 16 0 2 1 1 true, .sl 17 0 8 1 1 true, .bool false, .str [99,97,108,108], .str [115,117,109], .int .i64 0, .int .i64 134, .nilsl, .sl 18 0 2 1 1 true, .sl 19 0 8 1 1 true, .bool false],
  .cells [.ptr 20 0, .ptr 21 0],
  .cells [.str [118,97,114], .str [120], .int .i64 0, .int .i64 124, .nilsl],
  .cells [.str [118,97,114], .str [120], .int .i64 0, .int .i64 138, .nilsl],
  .cells [.str [99], .bool false],
  .cells [.str [119,104,101,110], .str [99], .int .i64 1, .int .i64 126, .nilsl, .sl 16 0 2 1 1 true, .sl 22 0 8 1 1 true, .bool false],
  .cells [.str [99], .bool true],
  .cells [.str [119,104,101,110], .str [99], .int .i64 0, .int .i64 140, .nilsl, .sl 18 0 2 1 1 true, .sl 23 0 8 1 1 true, .bool false],
  .cells [.str [99,97,108,108], .str [115,117,109], .int .i64 0, .int .i64 120, .nilsl, .sl 16 0 2 1 1 true, .sl 17 0 8 1 1 true, .bool false, .sl 24 0 1 1 1 true, .ptr 25 0, .bool false, .int .i64 p5, .int .i64 p6],
  .cells [.str [99,97,108,108], .str [115,117,109], .int .i64 0, .int .i64 134, .nilsl, .sl 18 0 2 1 1 true, .sl 19 0 8 1 1 true, .bool false, .sl 26 0 1 1 1 true, .ptr 27 0, .bool false, .int .i64 p7, .int .i64 p8],
  .cells [.str [118,97,114], .str [120], .int .i64 0, .int .i64 124, .nilsl, .nilsl, .nilsl, .bool false],
  .cells [.str [118,97,114], .str [120], .int .i64 0, .int .i64 138, .nilsl, .nilsl, .nilsl, .bool false],
  .cells [.ptr 28 0],
  .cells [.str [115,117,109], .sl 29 0 5 1 1 true, .sl 30 0 5 1 1 true, .sl 31 0 5 0 0 false, .sl 32 0 7 1 1 true, .int .i64 0, .sl 33 0 1 1 1 true, .map 34, .map 35, .nilsl],
  .cells [.ptr 36 0],
  .cells [.str [115,117,109], .sl 37 0 5 1 1 true, .sl 38 0 5 1 1 true, .sl 39 0 5 0 0 false, .sl 40 0 7 1 1 true, .int .i64 0, .sl 41 0 1 1 1 true, .map 42, .map 43, .nilsl],
  .cells [.str [119,104,101,110], .str [99], .int .i64 1, .int .i64 126, .nilsl, .sl 16 0 2 1 1 true, .sl 22 0 8 1 1 true, .bool false, .sl 44 0 1 1 1 true, .nilptr, .bool false, .int .i64 p9, .int .i64 p10],
  .cells [.str [120], .int .i64 2, .str [], .bool false, .int .i64 9],
  .cells [.str [121], .int .i64 2, .str [], .bool false, .int .i64 26],
  .cells [],
  .cells [.str [121], .str [43], .str [], .int .i64 0, .int .i64 45, .sl 45 0 5 2 2 true, .int .i64 39],
  .cells [.str [121]],
  .map [(.str [121], .ptr 46 0)],
  .map [],
  .cells [.str [119,104,101,110], .str [99], .int .i64 0, .int .i64 140, .nilsl, .sl 18 0 2 1 1 true, .sl 23 0 8 1 1 true, .bool false, .sl 47 0 1 1 1 true, .nilptr, .bool false, .int .i64 p11, .int .i64 p12],
  .cells [.str [120], .int .i64 2, .str [], .bool false, .int .i64 9],
  .cells [.str [121], .int .i64 2, .str [], .bool false, .int .i64 26],
  .cells [],
  .cells [.str [121], .str [43], .str [], .int .i64 0, .int .i64 45, .sl 48 0 5 2 2 true, .int .i64 39],
  .cells [.str [121]],
  .map [(.str [121], .ptr 49 0)],
  .map [(.str [120], .int .i64 p13), (.str [121], .int .i64 p14)],
  .cells [.ptr 50 0],
  .cells [.str [118,97,114], .str [120], .int .i64 0, .int .i64 43, .nilsl, .str [102,98,121], .str [], .int .i64 0, .int .i64 50, .sl 51 0 5 2 2 true],
  .cells [.str [43], .str [], .int .i64 0, .int .i64 45, .nilsl, .nilsl, .sl 52 0 8 2 2 true, .bool false, .sl 53 0 1 2 2 true, .nilptr, .bool false, .int .i64 p15, .int .i64 p16],
  .cells [.ptr 54 0],
  .cells [.str [118,97,114], .str [120], .int .i64 0, .int .i64 43, .nilsl, .str [102,98,121], .str [], .int .i64 0, .int .i64 50, .sl 55 0 5 2 2 true],
  .cells [.str [43], .str [], .int .i64 0, .int .i64 45, .nilsl, .nilsl, .sl 56 0 8 2 2 true, .bool false, .sl 57 0 1 2 2 true, .nilptr, .bool false, .int .i64 p17, .int .i64 p18],
  .cells [.str [118,97,114], .str [120], .int .i64 0, .int .i64 124, .nilsl, .nilsl, .nilsl, .bool false, .nilsl, .nilptr, .bool false, .int .i64 p19, .int .i64 p20],
  .cells [.str [105,110,116], .str [], .int .i64 0, .int .i64 48, .nilsl, .str [118,97,114], .str [121], .int .i64 0, .int .i64 54, .nilsl],
  .cells [.str [118,97,114], .str [120], .int .i64 0, .int .i64 43, .nilsl, .nilsl, .nilsl, .bool false, .str [102,98,121], .str [], .int .i64 0, .int .i64 50, .nilsl, .nilsl, .sl 58 0 8 2 2 true, .bool false],
  .cells [.ptr 59 0, .ptr 60 0],
  .cells [.str [118,97,114], .str [120], .int .i64 0, .int .i64 138, .nilsl, .nilsl, .nilsl, .bool false, .nilsl, .nilptr, .bool false, .int .i64 p21, .int .i64 p22],
  .cells [.str [105,110,116], .str [], .int .i64 0, .int .i64 48, .nilsl, .str [118,97,114], .str [121], .int .i64 0, .int .i64 54, .nilsl],
  .cells [.str [118,97,114], .str [120], .int .i64 0, .int .i64 43, .nilsl, .nilsl, .nilsl, .bool false, .str [102,98,121], .str [], .int .i64 0, .int .i64 50, .nilsl, .nilsl, .sl 61 0 8 2 2 true, .bool false],
  .cells [.ptr 62 0, .ptr 63 0],
  .cells [.str [105,110,116], .str [], .int .i64 0, .int .i64 48, .nilsl, .nilsl, .nilsl, .bool true, .str [118,97,114], .str [121], .int .i64 0, .int .i64 54, .nilsl, .nilsl, .nilsl, .bool false],
  .cells [.str [118,97,114], .str [120], .int .i64 0, .int .i64 43, .nilsl, .nilsl, .nilsl, .bool false, .nilsl, .nilptr, .bool false, .int .i64 p23, .int .i64 p24],
  .cells [.str [102,98,121], .str [], .int .i64 0, .int .i64 50, .nilsl, .nilsl, .sl 58 0 8 2 2 true, .bool false, .sl 64 0 1 2 2 true, .nilptr, .bool false, .int .i64 p25, .int .i64 p26],
  .cells [.str [105,110,116], .str [], .int .i64 0, .int .i64 48, .nilsl, .nilsl, .nilsl, .bool true, .str [118,97,114], .str [121], .int .i64 0, .int .i64 54, .nilsl, .nilsl, .nilsl, .bool false],
  .cells [.str [118,97,114], .str [120], .int .i64 0, .int .i64 43, .nilsl, .nilsl, .nilsl, .bool false, .nilsl, .nilptr, .bool false, .int .i64 p27, .int .i64 p28],
  .cells [.str [102,98,121], .str [], .int .i64 0, .int .i64 50, .nilsl, .nilsl, .sl 61 0 8 2 2 true, .bool false, .sl 65 0 1 2 2 true, .nilptr, .bool true, .int .i64 p29, .int .i64 p30],
  .cells [.ptr 66 0, .ptr 67 0],
  .cells [.ptr 68 0, .ptr 69 0],
  .cells [.str [105,110,116], .str [], .int .i64 0, .int .i64 48, .nilsl, .nilsl, .nilsl, .bool true, .nilsl, .nilptr, .bool false, .int .i64 p31, .int .i64 p32],
  .cells [.str [118,97,114], .str [121], .int .i64 0, .int .i64 54, .nilsl, .nilsl, .nilsl, .bool false, .nilsl, .nilptr, .bool false, .int .i64 p33, .int .i64 p34],
  .cells [.str [105,110,116], .str [], .int .i64 0, .int .i64 48, .nilsl, .nilsl, .nilsl, .bool true, .nilsl, .nilptr, .bool false, .int .i64 p35, .int .i64 p36],
  .cells [.str [118,97,114], .str [121], .int .i64 0, .int .i64 54, .nilsl, .nilsl, .nilsl, .bool false, .nilsl, .nilptr, .bool false, .int .i64 p37, .int .i64 p38]]
def suG2 (p0 p1 p2 p3 p4 p5 p6 p7 p8 p9 p10 p11 p12 p13 p14 p15 p16 p17 p18 p19 p20 p21 p22 p23 p24 p25 p26 p27 p28 p29 p30 p31 p32 p33 p34 p35 p36 p37 p38 : Int) : List AObj := [
  .cells [.str [102], .sl 1 0 5 2 2 true, .sl 2 0 5 1 1 true, .sl 3 0 5 0 0 false, .sl 4 0 7 1 1 true, .int .i64 62, .sl 5 0 1 1 1 true, .map 6, .map 7, .nilsl],
  .cells [.str [99], .int .i64 1, .str [], .bool false, .int .i64 69, .str [120], .int .i64 2, .str [], .bool false, .int .i64 78],
  .cells [.str [121], .int .i64 2, .str [], .bool false, .int .i64 95],
  .cells [],
  .cells [.str [121], .str [109,101,114,103,101], .str [99], .int .i64 0, .int .i64 112, .sl 8 0 5 2 2 true, .int .i64 108],
  .cells [.str [121]],
  .map [(.str [121], .ptr 9 0)],
  .map [(.str [99], .int .i64 p0), (.str [120], .int .i64 p1), (.str [121], .int .i64 p2)],
  .cells [.str [99,97,108,108], .str [115,117,109], .int .i64 0, .int .i64 120, .sl 10 0 5 1 1 true, .str [99,97,108,108], .str [115,117,109], .int .i64 0, .int .i64 134, .sl 11 0 5 1 1 true],
  .cells [.str [109,101,114,103,101], .str [99], .int .i64 0, .int .i64 112, .nilsl, .nilsl, .sl 12 0 8 2 2 true, .bool false, .sl 13 0 1 2 2 true, .nilptr, .bool false, .int .i64 p3, .int .i64 p4],
  .cells [.str [119,104,101,110], .str [99], .int .i64 1, .int .i64 126, .sl 14 0 5 1 1 true],
  .cells [.str [119,104,101,110], .str [99], .int .i64 0, .int .i64 140, .sl 15 0 5 1 1 true],
  .cells [.str [99,97,108,108], .str [115,117,109], .int .i64 0, .int .i64 120, .nilsl, .sl 16 0 2 1 1 true, .sl 17 0 8 1 1 true, .bool false, .str [99,97,108,108], .str [115,117,109], .int .i64 0, .int .i64 134, .nilsl, .sl 18 0 2 1 1 true, .sl 19 0 8 1 1 true, .bool false],
  .cells [.ptr 20 0, .ptr 21 0],
  .cells [.str [118,97,114], .str [120], .int .i64 0, .int .i64 124, .nilsl],
  .cells [.str [118,97,114], .str [120], .int .i64 0, .int .i64 138, .nilsl],
  .cells [.str [99], .bool false],
  .cells [.str [119,104,101,110], .str [99], .int .i64 1, .int .i64 126, .nilsl, .sl 16 0 2 1 1 true, .sl 22 0 8 1 1 true, .bool false],
  .cells [.str [99], .bool true],
  .cells [.str [119,104,101,110], .str [99], .int .i64 0, .int .i64 140, .nilsl, .sl 18 0 2 1 1 true, .sl 23 0 8 1 1 true, .bool false],
  .cells [.str [99,97,108,108], .str [115,117,109], .int .i64 0, .int .i64 120, .nilsl, .sl 16 0 2 1 1 true, .sl 17 0 8 1 1 true, .bool false, .sl 24 0 1 1 1 true, .ptr 25 0, .bool false, .int .i64 p5, .int .i64 p6],
  .cells [.str [99,97,108,108], .str [115,117,109], .int .i64 0, .int .i64 134, .nilsl, .sl 18 0 2 1 1 true, .sl 19 0 8 1 1 true, .bool false, .sl 26 0 1 1 1 true, .ptr 27 0, .bool false, .int .i64 p7, .int .i64 p8],
  .cells [.str [118,97,114], .str [120], .int .i64 0, .int .i64 124, .nilsl, .nilsl, .nilsl, .bool false],
  .cells [.str [118,97,114], .str [120], .int .i64 0, .int .i64 138, .nilsl, .nilsl, .nilsl, .bool false],
  .cells [.ptr 28 0],
  .cells [.str [115,117,109], .sl 29 0 5 1 1 true, .sl 30 0 5 1 1 true, .sl 31 0 5 0 0 false, .sl 32 0 7 1 1 true, .int .i64 0, .sl 33 0 1 1 1 true, .map 34, .map 35, .nilsl],
  .cells [.ptr 36 0],
  .cells [.str [115,117,109], .sl 37 0 5 1 1 true, .sl 38 0 5 1 1 true, .sl 39 0 5 0 0 false, .sl 40 0 7 1 1 true, .int .i64 0, .sl 41 0 1 1 1 true, .map 42, .map 43, .nilsl],
  .cells [.str [119,104,101,110], .str [99], .int .i64 1, .int .i64 126, .nilsl, .sl 16 0 2 1 1 true, .sl 22 0 8 1 1 true, .bool false, .sl 44 0 1 1 1 true, .nilptr, .bool false, .int .i64 p9, .int .i64 p10],
  .cells [.str [120], .int .i64 2, .str [], .bool false, .int .i64 9],
  .cells [.str [121], .int .i64 2, .str [], .bool false, .int .i64 26],
  .cells [],
  .cells [.str [121], .str [43], .str [], .int .i64 0, .int .i64 45, .sl 45 0 5 2 2 true, .int .i64 39],
  .cells [.str [121]],
  .map [(.str [121], .ptr 46 0)],
  .map [(.str [120], .int .i64 p11), (.str [121], .int .i64 p12)],
  .cells [.str [119,104,101,110], .str [99], .int .i64 0, .int .i64 140, .nilsl, .sl 18 0 2 1 1 true, .sl 23 0 8 1 1 true, .bool false, .sl 47 0 1 1 1 true, .nilptr, .bool false, .int .i64 p13, .int .i64 p14],
  .cells [.str [120], .int .i64 2, .str [], .bool false, .int .i64 9],
  .cells [.str [121], .int .i64 2, .str [], .bool false, .int .i64 26],
  .cells [],
  .cells [.str [121], .str [43], .str [], .int .i64 0, .int .i64 45, .sl 48 0 5 2 2 true, .int .i64 39],
  .cells [.str [121]],
  .map [(.str [121], .ptr 49 0)],
  .map [],
  .cells [.ptr 50 0],
  .cells [.str [118,97,114], .str [120], .int .i64 0, .int .i64 43, .nilsl, .str [102,98,121], .str [], .int .i64 0, .int .i64 50, .sl 51 0 5 2 2 true],
  .cells [.str [43], .str [], .int .i64 0, .int .i64 45, .nilsl, .nilsl, .sl 52 0 8 2 2 true, .bool false, .sl 53 0 1 2 2 true, .nilptr, .bool false, .int .i64 p15, .int .i64 p16],
  .cells [.ptr 54 0],
  .cells [.str [118,97,114], .str [120], .int .i64 0, .int .i64 43, .nilsl, .str [102,98,121], .str [], .int .i64 0, .int .i64 50, .sl 55 0 5 2 2 true],
  .cells [.str [43], .str [], .int .i64 0, .int .i64 45, .nilsl, .nilsl, .sl 56 0 8 2 2 true, .bool false, .sl 57 0 1 2 2 true, .nilptr, .bool false, .int .i64 p17, .int .i64 p18],
  .cells [.str [118,97,114], .str [120], .int .i64 0, .int .i64 124, .nilsl, .nilsl, .nilsl, .bool false, .nilsl, .nilptr, .bool false, .int .i64 p19, .int .i64 p20],
  .cells [.str [105,110,116], .str [], .int .i64 0, .int .i64 48, .nilsl, .str [118,97,114], .str [121], .int .i64 0, .int .i64 54, .nilsl],
  .cells [.str [118,97,114], .str [120], .int .i64 0, .int .i64 43, .nilsl, .nilsl, .nilsl, .bool false, .str [102,98,121], .str [], .int .i64 0, .int .i64 50, .nilsl, .nilsl, .sl 58 0 8 2 2 true, .bool false],
  .cells [.ptr 59 0, .ptr 60 0],
  .cells [.str [118,97,114], .str [120], .int .i64 0, .int .i64 138, .nilsl, .nilsl, .nilsl, .bool false, .nilsl, .nilptr, .bool false, .int .i64 p21, .int .i64 p22],
  .cells [.str [105,110,116], .str [], .int .i64 0, .int .i64 48, .nilsl, .str [118,97,114], .str [121], .int .i64 0, .int .i64 54, .nilsl],
  .cells [.str [118,97,114], .str [120], .int .i64 0, .int .i64 43, .nilsl, .nilsl, .nilsl, .bool false, .str [102,98,121], .str [], .int .i64 0, .int .i64 50, .nilsl, .nilsl, .sl 61 0 8 2 2 true, .bool false],
  .cells [.ptr 62 0, .ptr 63 0],
  .cells [.str [105,110,116], .str [], .int .i64 0, .int .i64 48, .nilsl, .nilsl, .nilsl, .bool true, .str [118,97,114], .str [121], .int .i64 0, .int .i64 54, .nilsl, .nilsl, .nilsl, .bool false],
  .cells [.str [118,97,114], .str [120], .int .i64 0, .int .i64 43, .nilsl, .nilsl, .nilsl, .bool false, .nilsl, .nilptr, .bool false, .int .i64 p23, .int .i64 p24],
  .cells [.str [102,98,121], .str [], .int .i64 0, .int .i64 50, .nilsl, .nilsl, .sl 58 0 8 2 2 true, .bool false, .sl 64 0 1 2 2 true, .nilptr, .bool true, .int .i64 p25, .int .i64 p26],
  .cells [.str [105,110,116], .str [], .int .i64 0, .int .i64 48, .nilsl, .nilsl, .nilsl, .bool true, .str [118,97,114], .str [121], .int .i64 0, .int .i64 54, .nilsl, .nilsl, .nilsl, .bool false],
  .cells [.str [118,97,114], .str [120], .int .i64 0, .int .i64 43, .nilsl, .nilsl, .nilsl, .bool false, .nilsl, .nilptr, .bool false, .int .i64 p27, .int .i64 p28],
  .cells [.str [102,98,121], .str [], .int .i64 0, .int .i64 50, .nilsl, .nilsl, .sl 61 0 8 2 2 true, .bool false, .sl 65 0 1 2 2 true, .nilptr, .bool false, .int .i64 p29, .int .i64 p30],
  .cells [.ptr 66 0, .ptr 67 0],
  .cells [.ptr 68 0, .ptr 69 0],
  .cells [.str [105,110,116], .str [], .int .i64 0, .int .i64 48, .nilsl, .nilsl, .nilsl, .bool true, .nilsl, .nilptr, .bool false, .int .i64 p31, .int .i64 p32],
  .cells [.str [118,97,114], .str [121], .int .i64 0, .int .i64 54, .nilsl, .nilsl, .nilsl, .bool false, .nilsl, .nilptr, .bool false, .int .i64 p33, .int .i64 p34],
  .cells [.str [105,110,116], .str [], .int .i64 0, .int .i64 48, .nilsl, .nilsl, .nilsl, .bool true, .nilsl, .nilptr, .bool false, .int .i64 p35, .int .i64 p36],
  .cells [.str [118,97,114], .str [121], .int .i64 0, .int .i64 54, .nilsl, .nilsl, .nilsl, .bool false, .nilsl, .nilptr, .bool false, .int .i64 p37, .int .i64 p38]]
def suG3 (p0 p1 p2 p3 p4 p5 p6 p7 p8 p9 p10 p11 p12 p13 p14 p15 p16 p17 p18 p19 p20 p21 p22 p23 p24 p25 p26 p27 p28 p29 p30 p31 p32 p33 p34 p35 p36 p37 p38 p39 p40 : Int) : List AObj := [
  .cells [.str [102], .sl 1 0 5 2 2 true, .sl 2 0 5 1 1 true, .sl 3 0 5 0 0 false, .sl 4 0 7 1 1 true, .int .i64 62, .sl 5 0 1 1 1 true, .map 6, .map 7, .nilsl],
  .cells [.str [99], .int .i64 1, .str [], .bool false, .int .i64 69, .str [120], .int .i64 2, .str [], .bool false, .int .i64 78],
  .cells [.str [121], .int .i64 2, .str [], .bool false, .int .i64 95],
  .cells [],
  .cells [.str [121], .str [109,101,114,103,101], .str [99], .int .i64 0, .int .i64 112, .sl 8 0 5 2 2 true, .int .i64 108],
  .cells [.str [121]],
  .map [(.str [121], .ptr 9 0)],
  .map [(.str [99], .int .i64 p0), (.str [120], .int .i64 p1), (.str [121], .int .i64 p2)],
  .cells [.str [99,97,108,108], .str [115,117,109], .int .i64 0, .int .i64 120, .sl 10 0 5 1 1 true, .str [99,97,108,108], .str [115,117,109], .int .i64 0, .int .i64 134, .sl 11 0 5 1 1 true],
  .cells [.str [109,101,114,103,101], .str [99], .int .i64 0, .int .i64 112, .nilsl, .nilsl, .sl 12 0 8 2 2 true, .bool false, .sl 13 0 1 2 2 true, .nilptr, .bool false, .int .i64 p3, .int .i64 p4],
  .cells [.str [119,104,101,110], .str [99], .int .i64 1, .int .i64 126, .sl 14 0 5 1 1 true],
  .cells [.str [119,104,101,110], .str [99], .int .i64 0, .int .i64 140, .sl 15 0 5 1 1 true],
  .cells [.str [99,97,108,108], .str [115,117,109], .int .i64 0, .int .i64 120, .nilsl, .sl 16 0 2 1 1 true, .sl 17 0 8 1 1 true, .bool false, .str [99,97,108,108], .str [115,117,109], .int .i64 0, .int .i64 134, .nilsl, .sl 18 0 2 1 1 true, .sl 19 0 8 1 1 true, .bool false],
  .cells [.ptr 20 0, .ptr 21 0],
  .cells [.str [118,97,114], .str [120], .int .i64 0, .int .i64 124, .nilsl],
  .cells [.str [118,97,114], .str [120], .int .i64 0, .int .i64 138, .nilsl],
  .cells [.str [99], .bool false],
  .cells [.str [119,104,101,110], .str [99], .int .i64 1, .int .i64 126, .nilsl, .sl 16 0 2 1 1 true, .sl 22 0 8 1 1 true, .bool false],
  .cells [.str [99], .bool true],
  .cells [.str [119,104,101,110], .str [99], .int .i64 0, .int .i64 140, .nilsl, .sl 18 0 2 1 1 true, .sl 23 0 8 1 1 true, .bool false],
  .cells [.str [99,97,108,108], .str [115,117,109], .int .i64 0, .int .i64 120, .nilsl, .sl 16 0 2 1 1 true, .sl 17 0 8 1 1 true, .bool false, .sl 24 0 1 1 1 true, .ptr 25 0, .bool false, .int .i64 p5, .int .i64 p6],
  .cells [.str [99,97,108,108], .str [115,117,109], .int .i64 0, .int .i64 134, .nilsl, .sl 18 0 2 1 1 true, .sl 19 0 8 1 1 true, .bool false, .sl 26 0 1 1 1 true, .ptr 27 0, .bool false, .int .i64 p7, .int .i64 p8],
  .cells [.str [118,97,114], .str [120], .int .i64 0, .int .i64 124, .nilsl, .nilsl, .nilsl, .bool false],
  .cells [.str [118,97,114], .str [120], .int .i64 0, .int .i64 138, .nilsl, .nilsl, .nilsl, .bool false],
  .cells [.ptr 28 0],
  .cells [.str [115,117,109], .sl 29 0 5 1 1 true, .sl 30 0 5 1 1 true, .sl 31 0 5 0 0 false, .sl 32 0 7 1 1 true, .int .i64 0, .sl 33 0 1 1 1 true, .map 34, .map 35, .nilsl],
  .cells [.ptr 36 0],
  .cells [.str [115,117,109], .sl 37 0 5 1 1 true, .sl 38 0 5 1 1 true, .sl 39 0 5 0 0 false, .sl 40 0 7 1 1 true, .int .i64 0, .sl 41 0 1 1 1 true, .map 42, .map 43, .nilsl],
  .cells [.str [119,104,101,110], .str [99], .int .i64 1, .int .i64 126, .nilsl, .sl 16 0 2 1 1 true, .sl 22 0 8 1 1 true, .bool false, .sl 44 0 1 1 1 true, .nilptr, .bool false, .int .i64 p9, .int .i64 p10],
  .cells [.str [120], .int .i64 2, .str [], .bool false, .int .i64 9],
  .cells [.str [121], .int .i64 2, .str [], .bool false, .int .i64 26],
  .cells [],
  .cells [.str [121], .str [43], .str [], .int .i64 0, .int .i64 45, .sl 45 0 5 2 2 true, .int .i64 39],
  .cells [.str [121]],
  .map [(.str [121], .ptr 46 0)],
  .map [(.str [120], .int .i64 p11), (.str [121], .int .i64 p12)],
  .cells [.str [119,104,101,110], .str [99], .int .i64 0, .int .i64 140, .nilsl, .sl 18 0 2 1 1 true, .sl 23 0 8 1 1 true, .bool false, .sl 47 0 1 1 1 true, .nilptr, .bool false, .int .i64 p13, .int .i64 p14],
  .cells [.str [120], .int .i64 2, .str [], .bool false, .int .i64 9],
  .cells [.str [121], .int .i64 2, .str [], .bool false, .int .i64 26],
  .cells [],
  .cells [.str [121], .str [43], .str [], .int .i64 0, .int .i64 45, .sl 48 0 5 2 2 true, .int .i64 39],
  .cells [.str [121]],
  .map [(.str [121], .ptr 49 0)],
  .map [(.str [120], .int .i64 p15), (.str [121], .int .i64 p16)],
  .cells [.ptr 50 0],
  .cells [.str [118,97,114], .str [120], .int .i64 0, .int .i64 43, .nilsl, .str [102,98,121], .str [], .int .i64 0, .int .i64 50, .sl 51 0 5 2 2 true],
  .cells [.str [43], .str [], .int .i64 0, .int .i64 45, .nilsl, .nilsl, .sl 52 0 8 2 2 true, .bool false, .sl 53 0 1 2 2 true, .nilptr, .bool false, .int .i64 p17, .int .i64 p18],
  .cells [.ptr 54 0],
  .cells [.str [118,97,114], .str [120], .int .i64 0, .int .i64 43, .nilsl, .str [102,98,121], .str [], .int .i64 0, .int .i64 50, .sl 55 0 5 2 2 true],
  .cells [.str [43], .str [], .int .i64 0, .int .i64 45, .nilsl, .nilsl, .sl 56 0 8 2 2 true, .bool false, .sl 57 0 1 2 2 true, .nilptr, .bool false, .int .i64 p19, .int .i64 p20],
  .cells [.str [118,97,114], .str [120], .int .i64 0, .int .i64 124, .nilsl, .nilsl, .nilsl, .bool false, .nilsl, .nilptr, .bool false, .int .i64 p21, .int .i64 p22],
  .cells [.str [105,110,116], .str [], .int .i64 0, .int .i64 48, .nilsl, .str [118,97,114], .str [121], .int .i64 0, .int .i64 54, .nilsl],
  .cells [.str [118,97,114], .str [120], .int .i64 0, .int .i64 43, .nilsl, .nilsl, .nilsl, .bool false, .str [102,98,121], .str [], .int .i64 0, .int .i64 50, .nilsl, .nilsl, .sl 58 0 8 2 2 true, .bool false],
  .cells [.ptr 59 0, .ptr 60 0],
  .cells [.str [118,97,114], .str [120], .int .i64 0, .int .i64 138, .nilsl, .nilsl, .nilsl, .bool false, .nilsl, .nilptr, .bool false, .int .i64 p23, .int .i64 p24],
  .cells [.str [105,110,116], .str [], .int .i64 0, .int .i64 48, .nilsl, .str [118,97,114], .str [121], .int .i64 0, .int .i64 54, .nilsl],
  .cells [.str [118,97,114], .str [120], .int .i64 0, .int .i64 43, .nilsl, .nilsl, .nilsl, .bool false, .str [102,98,121], .str [], .int .i64 0, .int .i64 50, .nilsl, .nilsl, .sl 61 0 8 2 2 true, .bool false],
  .cells [.ptr 62 0, .ptr 63 0],
  .cells [.str [105,110,116], .str [], .int .i64 0, .int .i64 48, .nilsl, .nilsl, .nilsl, .bool true, .str [118,97,114], .str [121], .int .i64 0, .int .i64 54, .nilsl, .nilsl, .nilsl, .bool false],
  .cells [.str [118,97,114], .str [120], .int .i64 0, .int .i64 43, .nilsl, .nilsl, .nilsl, .bool false, .nilsl, .nilptr, .bool false, .int .i64 p25, .int .i64 p26],
  .cells [.str [102,98,121], .str [], .int .i64 0, .int .i64 50, .nilsl, .nilsl, .sl 58 0 8 2 2 true, .bool false, .sl 64 0 1 2 2 true, .nilptr, .bool true, .int .i64 p27, .int .i64 p28],
  .cells [.str [105,110,116], .str [], .int .i64 0, .int .i64 48, .nilsl, .nilsl, .nilsl, .bool true, .str [118,97,114], .str [121], .int .i64 0, .int .i64 54, .nilsl, .nilsl, .nilsl, .bool false],
  .cells [.str [118,97,114], .str [120], .int .i64 0, .int .i64 43, .nilsl, .nilsl, .nilsl, .bool false, .nilsl, .nilptr, .bool false, .int .i64 p29, .int .i64 p30],
  .cells [.str [102,98,121], .str [], .int .i64 0, .int .i64 50, .nilsl, .nilsl, .sl 61 0 8 2 2 true, .bool false, .sl 65 0 1 2 2 true, .nilptr, .bool true, .int .i64 p31, .int .i64 p32],
  .cells [.ptr 66 0, .ptr 67 0],
  .cells [.ptr 68 0, .ptr 69 0],
  .cells [.str [105,110,116], .str [], .int .i64 0, .int .i64 48, .nilsl, .nilsl, .nilsl, .bool true, .nilsl, .nilptr, .bool false, .int .i64 p33, .int .i64 p34],
  .cells [.str [118,97,114], .str [121], .int .i64 0, .int .i64 54, .nilsl, .nilsl, .nilsl, .bool false, .nilsl, .nilptr, .bool false, .int .i64 p35, .int .i64 p36],
  .cells [.str [105,110,116], .str [], .int .i64 0, .int .i64 48, .nilsl, .nilsl, .nilsl, .bool true, .nilsl, .nilptr, .bool false, .int .i64 p37, .int .i64 p38],
  .cells [.str [118,97,114], .str [121], .int .i64 0, .int .i64 54, .nilsl, .nilsl, .nilsl, .bool false, .nilsl, .nilptr, .bool false, .int .i64 p39, .int .i64 p40]]
def suB : List AObj := suG0 0 0 0 0 0 0 0 0 0 0 0 0 0 0 0 0 0 0 0 0 0 0 0 0 0 0 0 0 0 0 0 0 0 0
def superm : List Nat := [35, 3, 5, 6, 8, 105, 33, 34, 12, 198, 16, 26, 179, 554, 20, 30, 135, 138, 168, 171, 201, 379, 130, 163, 211, 239, 389, 417, 204, 217, 219, 220, 222, 293, 237, 238, 382, 395, 397, 398, 400, 471, 415, 416, 209, 226, 354, 387, 404, 532, 207, 232, 342, 374, 385, 410, 520, 552, 331, 357, 362, 509, 535, 540, 372, 550, 365, 370, 543, 548]
theorem subegun (H : AHeap) : Does Tryz.prog (Gof tab) 23 [sunodes] H fun r h => ∃ ρ : Nat → Nat, IsPart (AHeap.ofList suB) ρ h ∧ (∀ i, i < suB.length → H.next ≤ ρ i) ∧ r = .ptr (ρ 0) 0 ∧ H.next ≤ h.next ∧ ∀ j, j < H.next → h.get j = H.get j :=
  fresh_does (fuel := 100000) (n := 300) nmixed nplain knownW_good ngof (perm := superm) (by kernel_rfl) rfl (by decide) (fun Q => by kernel_rfl) H

theorem suok_0 (p0 p1 p2 p3 p4 p5 p6 p7 p8 p9 p10 p11 p12 p13 p14 p15 p16 p17 p18 p19 p20 p21 p22 p23 p24 p25 p26 p27 p28 p29 p30 p31 p32 p33 : Int) : heapOk 70 (suG0 p0 p1 p2 p3 p4 p5 p6 p7 p8 p9 p10 p11 p12 p13 p14 p15 p16 p17 p18 p19 p20 p21 p22 p23 p24 p25 p26 p27 p28 p29 p30 p31 p32 p33) = true := by kernel_rfl
theorem sulen_0 (p0 p1 p2 p3 p4 p5 p6 p7 p8 p9 p10 p11 p12 p13 p14 p15 p16 p17 p18 p19 p20 p21 p22 p23 p24 p25 p26 p27 p28 p29 p30 p31 p32 p33 : Int) : (suG0 p0 p1 p2 p3 p4 p5 p6 p7 p8 p9 p10 p11 p12 p13 p14 p15 p16 p17 p18 p19 p20 p21 p22 p23 p24 p25 p26 p27 p28 p29 p30 p31 p32 p33).length = 70 := rfl
theorem suok_1 (p0 p1 p2 p3 p4 p5 p6 p7 p8 p9 p10 p11 p12 p13 p14 p15 p16 p17 p18 p19 p20 p21 p22 p23 p24 p25 p26 p27 p28 p29 p30 p31 p32 p33 p34 p35 p36 p37 p38 : Int) : heapOk 70 (suG1 p0 p1 p2 p3 p4 p5 p6 p7 p8 p9 p10 p11 p12 p13 p14 p15 p16 p17 p18 p19 p20 p21 p22 p23 p24 p25 p26 p27 p28 p29 p30 p31 p32 p33 p34 p35 p36 p37 p38) = true := by kernel_rfl
theorem sulen_1 (p0 p1 p2 p3 p4 p5 p6 p7 p8 p9 p10 p11 p12 p13 p14 p15 p16 p17 p18 p19 p20 p21 p22 p23 p24 p25 p26 p27 p28 p29 p30 p31 p32 p33 p34 p35 p36 p37 p38 : Int) : (suG1 p0 p1 p2 p3 p4 p5 p6 p7 p8 p9 p10 p11 p12 p13 p14 p15 p16 p17 p18 p19 p20 p21 p22 p23 p24 p25 p26 p27 p28 p29 p30 p31 p32 p33 p34 p35 p36 p37 p38).length = 70 := rfl
theorem suok_2 (p0 p1 p2 p3 p4 p5 p6 p7 p8 p9 p10 p11 p12 p13 p14 p15 p16 p17 p18 p19 p20 p21 p22 p23 p24 p25 p26 p27 p28 p29 p30 p31 p32 p33 p34 p35 p36 p37 p38 : Int) : heapOk 70 (suG2 p0 p1 p2 p3 p4 p5 p6 p7 p8 p9 p10 p11 p12 p13 p14 p15 p16 p17 p18 p19 p20 p21 p22 p23 p24 p25 p26 p27 p28 p29 p30 p31 p32 p33 p34 p35 p36 p37 p38) = true := by kernel_rfl
theorem sulen_2 (p0 p1 p2 p3 p4 p5 p6 p7 p8 p9 p10 p11 p12 p13 p14 p15 p16 p17 p18 p19 p20 p21 p22 p23 p24 p25 p26 p27 p28 p29 p30 p31 p32 p33 p34 p35 p36 p37 p38 : Int) : (suG2 p0 p1 p2 p3 p4 p5 p6 p7 p8 p9 p10 p11 p12 p13 p14 p15 p16 p17 p18 p19 p20 p21 p22 p23 p24 p25 p26 p27 p28 p29 p30 p31 p32 p33 p34 p35 p36 p37 p38).length = 70 := rfl
theorem suok_3 (p0 p1 p2 p3 p4 p5 p6 p7 p8 p9 p10 p11 p12 p13 p14 p15 p16 p17 p18 p19 p20 p21 p22 p23 p24 p25 p26 p27 p28 p29 p30 p31 p32 p33 p34 p35 p36 p37 p38 p39 p40 : Int) : heapOk 70 (suG3 p0 p1 p2 p3 p4 p5 p6 p7 p8 p9 p10 p11 p12 p13 p14 p15 p16 p17 p18 p19 p20 p21 p22 p23 p24 p25 p26 p27 p28 p29 p30 p31 p32 p33 p34 p35 p36 p37 p38 p39 p40) = true := by kernel_rfl
theorem sulen_3 (p0 p1 p2 p3 p4 p5 p6 p7 p8 p9 p10 p11 p12 p13 p14 p15 p16 p17 p18 p19 p20 p21 p22 p23 p24 p25 p26 p27 p28 p29 p30 p31 p32 p33 p34 p35 p36 p37 p38 p39 p40 : Int) : (suG3 p0 p1 p2 p3 p4 p5 p6 p7 p8 p9 p10 p11 p12 p13 p14 p15 p16 p17 p18 p19 p20 p21 p22 p23 p24 p25 p26 p27 p28 p29 p30 p31 p32 p33 p34 p35 p36 p37 p38 p39 p40).length = 70 := rfl
theorem sufits_0i (x1 : Int) (H : AHeap) : Does Tryz.prog (Gof tab) 21 [suins, .vsl [.int .i64 0, .int .i64 x1] 2] H fun r h => r = .bool true ∧ h = H :=
  sym_does (fuel := 100000) (n := 300) nmixed nplain knownW_good ngof (by kernel_rfl) (fun Q => by kernel_rfl) (fun _ => rfl) H

theorem sutick_0_0i (p0 p1 p2 p3 p4 p5 p6 p7 p8 p9 p10 p11 p12 p13 p14 p15 p16 p17 p18 p19 p20 p21 p22 p23 p24 p25 p26 p27 p28 p29 p30 p31 p32 p33 : Int) (x1 : Int) : Does Tryz.prog (Gof tab) 24 [.ptr 0 0, .vsl [.int .i64 0, .int .i64 x1] 2] (AHeap.ofList (suG0 p0 p1 p2 p3 p4 p5 p6 p7 p8 p9 p10 p11 p12 p13 p14 p15 p16 p17 p18 p19 p20 p21 p22 p23 p24 p25 p26 p27 p28 p29 p30 p31 p32 p33)) fun r h => r = .vsl [.int .i64 (fwrap IntKind.i64 (iadd (x1) 0))] 1 ∧ h = AHeap.ofList (suG1 (0) (x1) (fwrap IntKind.i64 (iadd (x1) 0)) (p0) (p1) (p2) (p3) (p4) (p5) (p6) (p7) (p8) (p9) (x1) (fwrap IntKind.i64 (iadd (x1) 0)) (p10) (p11) (p12) (p13) (p14) (p15) (p16) (p17) (p18) (p19) (p20) (p21) (p22) (p23) (fwrap IntKind.i64 (iadd (x1) 0)) (fwrap IntKind.i64 (iadd (x1) 0)) (p26) (p27) (p28) (p29) (p30) (p31) (p32) (p33)) :=
  tick_does (fuel := 100000) (n := 300) nmixed nplain knownW_good (by kernel_rfl) (by kernel_rfl) (fun Q => by kernel_rfl)

theorem sufits_1i (x1 : Int) (H : AHeap) : Does Tryz.prog (Gof tab) 21 [suins, .vsl [.int .i64 1, .int .i64 x1] 2] H fun r h => r = .bool true ∧ h = H :=
  sym_does (fuel := 100000) (n := 300) nmixed nplain knownW_good ngof (by kernel_rfl) (fun Q => by kernel_rfl) (fun _ => rfl) H

theorem sutick_0_1i (p0 p1 p2 p3 p4 p5 p6 p7 p8 p9 p10 p11 p12 p13 p14 p15 p16 p17 p18 p19 p20 p21 p22 p23 p24 p25 p26 p27 p28 p29 p30 p31 p32 p33 : Int) (x1 : Int) : Does Tryz.prog (Gof tab) 24 [.ptr 0 0, .vsl [.int .i64 1, .int .i64 x1] 2] (AHeap.ofList (suG0 p0 p1 p2 p3 p4 p5 p6 p7 p8 p9 p10 p11 p12 p13 p14 p15 p16 p17 p18 p19 p20 p21 p22 p23 p24 p25 p26 p27 p28 p29 p30 p31 p32 p33)) fun r h => r = .vsl [.int .i64 (fwrap IntKind.i64 (iadd (x1) 0))] 1 ∧ h = AHeap.ofList (suG2 (1) (x1) (fwrap IntKind.i64 (iadd (x1) 0)) (p0) (p1) (p2) (p3) (p4) (p5) (p6) (p7) (x1) (fwrap IntKind.i64 (iadd (x1) 0)) (p8) (p9) (p10) (p11) (p12) (p13) (p14) (p15) (p16) (p17) (p18) (p19) (fwrap IntKind.i64 (iadd (x1) 0)) (fwrap IntKind.i64 (iadd (x1) 0)) (p22) (p23) (p24) (p25) (p26) (p27) (p28) (p29) (p30) (p31) (p32) (p33)) :=
  tick_does (fuel := 100000) (n := 300) nmixed nplain knownW_good (by kernel_rfl) (by kernel_rfl) (fun Q => by kernel_rfl)

theorem sutick_1_0i (p0 p1 p2 p3 p4 p5 p6 p7 p8 p9 p10 p11 p12 p13 p14 p15 p16 p17 p18 p19 p20 p21 p22 p23 p24 p25 p26 p27 p28 p29 p30 p31 p32 p33 p34 p35 p36 p37 p38 : Int) (x1 : Int) : Does Tryz.prog (Gof tab) 24 [.ptr 0 0, .vsl [.int .i64 0, .int .i64 x1] 2] (AHeap.ofList (suG1 p0 p1 p2 p3 p4 p5 p6 p7 p8 p9 p10 p11 p12 p13 p14 p15 p16 p17 p18 p19 p20 p21 p22 p23 p24 p25 p26 p27 p28 p29 p30 p31 p32 p33 p34 p35 p36 p37 p38)) fun r h => r = .vsl [.int .i64 (fwrap IntKind.i64 (iadd (x1) (p29)))] 1 ∧ h = AHeap.ofList (suG1 (0) (x1) (fwrap IntKind.i64 (iadd (x1) (p29))) (p3) (p4) (p5) (p6) (p7) (p8) (p9) (p10) (p11) (p12) (x1) (fwrap IntKind.i64 (iadd (x1) (p29))) (p15) (p16) (p17) (p18) (p19) (p20) (p21) (p22) (p23) (p24) (p25) (p26) (p27) (p28) (fwrap IntKind.i64 (iadd (x1) (p29))) (fwrap IntKind.i64 (iadd (x1) (p29))) (p31) (p32) (p33) (p34) (p35) (p36) (p37) (p38)) :=
  tick_does (fuel := 100000) (n := 300) nmixed nplain knownW_good (by kernel_rfl) (by kernel_rfl) (fun Q => by kernel_rfl)

theorem sutick_1_1i (p0 p1 p2 p3 p4 p5 p6 p7 p8 p9 p10 p11 p12 p13 p14 p15 p16 p17 p18 p19 p20 p21 p22 p23 p24 p25 p26 p27 p28 p29 p30 p31 p32 p33 p34 p35 p36 p37 p38 : Int) (x1 : Int) : Does Tryz.prog (Gof tab) 24 [.ptr 0 0, .vsl [.int .i64 1, .int .i64 x1] 2] (AHeap.ofList (suG1 p0 p1 p2 p3 p4 p5 p6 p7 p8 p9 p10 p11 p12 p13 p14 p15 p16 p17 p18 p19 p20 p21 p22 p23 p24 p25 p26 p27 p28 p29 p30 p31 p32 p33 p34 p35 p36 p37 p38)) fun r h => r = .vsl [.int .i64 (fwrap IntKind.i64 (iadd (x1) 0))] 1 ∧ h = AHeap.ofList (suG3 (1) (x1) (fwrap IntKind.i64 (iadd (x1) 0)) (p3) (p4) (p5) (p6) (p7) (p8) (p9) (p10) (x1) (fwrap IntKind.i64 (iadd (x1) 0)) (p11) (p12) (p13) (p14) (p15) (p16) (p17) (p18) (p19) (p20) (p21) (p22) (p23) (p24) (fwrap IntKind.i64 (iadd (x1) 0)) (fwrap IntKind.i64 (iadd (x1) 0)) (p27) (p28) (p29) (p30) (p31) (p32) (p33) (p34) (p35) (p36) (p37) (p38)) :=
  tick_does (fuel := 100000) (n := 300) nmixed nplain knownW_good (by kernel_rfl) (by kernel_rfl) (fun Q => by kernel_rfl)

theorem sutick_2_0i (p0 p1 p2 p3 p4 p5 p6 p7 p8 p9 p10 p11 p12 p13 p14 p15 p16 p17 p18 p19 p20 p21 p22 p23 p24 p25 p26 p27 p28 p29 p30 p31 p32 p33 p34 p35 p36 p37 p38 : Int) (x1 : Int) : Does Tryz.prog (Gof tab) 24 [.ptr 0 0, .vsl [.int .i64 0, .int .i64 x1] 2] (AHeap.ofList (suG2 p0 p1 p2 p3 p4 p5 p6 p7 p8 p9 p10 p11 p12 p13 p14 p15 p16 p17 p18 p19 p20 p21 p22 p23 p24 p25 p26 p27 p28 p29 p30 p31 p32 p33 p34 p35 p36 p37 p38)) fun r h => r = .vsl [.int .i64 (fwrap IntKind.i64 (iadd (x1) 0))] 1 ∧ h = AHeap.ofList (suG3 (0) (x1) (fwrap IntKind.i64 (iadd (x1) 0)) (p3) (p4) (p5) (p6) (p7) (p8) (p9) (p10) (p11) (p12) (p13) (p14) (x1) (fwrap IntKind.i64 (iadd (x1) 0)) (p15) (p16) (p17) (p18) (p19) (p20) (p21) (p22) (p23) (p24) (p25) (p26) (p27) (p28) (fwrap IntKind.i64 (iadd (x1) 0)) (fwrap IntKind.i64 (iadd (x1) 0)) (p31) (p32) (p33) (p34) (p35) (p36) (p37) (p38)) :=
  tick_does (fuel := 100000) (n := 300) nmixed nplain knownW_good (by kernel_rfl) (by kernel_rfl) (fun Q => by kernel_rfl)

theorem sutick_2_1i (p0 p1 p2 p3 p4 p5 p6 p7 p8 p9 p10 p11 p12 p13 p14 p15 p16 p17 p18 p19 p20 p21 p22 p23 p24 p25 p26 p27 p28 p29 p30 p31 p32 p33 p34 p35 p36 p37 p38 : Int) (x1 : Int) : Does Tryz.prog (Gof tab) 24 [.ptr 0 0, .vsl [.int .i64 1, .int .i64 x1] 2] (AHeap.ofList (suG2 p0 p1 p2 p3 p4 p5 p6 p7 p8 p9 p10 p11 p12 p13 p14 p15 p16 p17 p18 p19 p20 p21 p22 p23 p24 p25 p26 p27 p28 p29 p30 p31 p32 p33 p34 p35 p36 p37 p38)) fun r h => r = .vsl [.int .i64 (fwrap IntKind.i64 (iadd (x1) (p25)))] 1 ∧ h = AHeap.ofList (suG2 (1) (x1) (fwrap IntKind.i64 (iadd (x1) (p25))) (p3) (p4) (p5) (p6) (p7) (p8) (p9) (p10) (x1) (fwrap IntKind.i64 (iadd (x1) (p25))) (p13) (p14) (p15) (p16) (p17) (p18) (p19) (p20) (p21) (p22) (p23) (p24) (fwrap IntKind.i64 (iadd (x1) (p25))) (fwrap IntKind.i64 (iadd (x1) (p25))) (p27) (p28) (p29) (p30) (p31) (p32) (p33) (p34) (p35) (p36) (p37) (p38)) :=
  tick_does (fuel := 100000) (n := 300) nmixed nplain knownW_good (by kernel_rfl) (by kernel_rfl) (fun Q => by kernel_rfl)

theorem sutick_3_0i (p0 p1 p2 p3 p4 p5 p6 p7 p8 p9 p10 p11 p12 p13 p14 p15 p16 p17 p18 p19 p20 p21 p22 p23 p24 p25 p26 p27 p28 p29 p30 p31 p32 p33 p34 p35 p36 p37 p38 p39 p40 : Int) (x1 : Int) : Does Tryz.prog (Gof tab) 24 [.ptr 0 0, .vsl [.int .i64 0, .int .i64 x1] 2] (AHeap.ofList (suG3 p0 p1 p2 p3 p4 p5 p6 p7 p8 p9 p10 p11 p12 p13 p14 p15 p16 p17 p18 p19 p20 p21 p22 p23 p24 p25 p26 p27 p28 p29 p30 p31 p32 p33 p34 p35 p36 p37 p38 p39 p40)) fun r h => r = .vsl [.int .i64 (fwrap IntKind.i64 (iadd (x1) (p31)))] 1 ∧ h = AHeap.ofList (suG3 (0) (x1) (fwrap IntKind.i64 (iadd (x1) (p31))) (p3) (p4) (p5) (p6) (p7) (p8) (p9) (p10) (p11) (p12) (p13) (p14) (x1) (fwrap IntKind.i64 (iadd (x1) (p31))) (p17) (p18) (p19) (p20) (p21) (p22) (p23) (p24) (p25) (p26) (p27) (p28) (p29) (p30) (fwrap IntKind.i64 (iadd (x1) (p31))) (fwrap IntKind.i64 (iadd (x1) (p31))) (p33) (p34) (p35) (p36) (p37) (p38) (p39) (p40)) :=
  tick_does (fuel := 100000) (n := 300) nmixed nplain knownW_good (by kernel_rfl) (by kernel_rfl) (fun Q => by kernel_rfl)

theorem sutick_3_1i (p0 p1 p2 p3 p4 p5 p6 p7 p8 p9 p10 p11 p12 p13 p14 p15 p16 p17 p18 p19 p20 p21 p22 p23 p24 p25 p26 p27 p28 p29 p30 p31 p32 p33 p34 p35 p36 p37 p38 p39 p40 : Int) (x1 : Int) : Does Tryz.prog (Gof tab) 24 [.ptr 0 0, .vsl [.int .i64 1, .int .i64 x1] 2] (AHeap.ofList (suG3 p0 p1 p2 p3 p4 p5 p6 p7 p8 p9 p10 p11 p12 p13 p14 p15 p16 p17 p18 p19 p20 p21 p22 p23 p24 p25 p26 p27 p28 p29 p30 p31 p32 p33 p34 p35 p36 p37 p38 p39 p40)) fun r h => r = .vsl [.int .i64 (fwrap IntKind.i64 (iadd (x1) (p27)))] 1 ∧ h = AHeap.ofList (suG3 (1) (x1) (fwrap IntKind.i64 (iadd (x1) (p27))) (p3) (p4) (p5) (p6) (p7) (p8) (p9) (p10) (x1) (fwrap IntKind.i64 (iadd (x1) (p27))) (p13) (p14) (p15) (p16) (p17) (p18) (p19) (p20) (p21) (p22) (p23) (p24) (p25) (p26) (fwrap IntKind.i64 (iadd (x1) (p27))) (fwrap IntKind.i64 (iadd (x1) (p27))) (p29) (p30) (p31) (p32) (p33) (p34) (p35) (p36) (p37) (p38) (p39) (p40)) :=
  tick_does (fuel := 100000) (n := 300) nmixed nplain knownW_good (by kernel_rfl) (by kernel_rfl) (fun Q => by kernel_rfl)

end Go.Proofs.YtnnlgafmpobdhaaGreatDoor

/-
  A program's machine: what it tells, tick by tick: node sum(x: int) returns (y: int); let y = x + (0 fby y); tel node f(c: bool; x: int) returns (y: int); let y = merge c sum(x when c) sum(x when not c); tel
-/


namespace Go.Proofs.YtnnlgafmpobdhaaGreatDoor
open Go Go.Abs Go.RowKit
set_option maxRecDepth 100000
set_option linter.unusedVariables false
set_option linter.unusedSimpArgs false

/-- The sums, behind so many ticks. -/
def suS (c : Nat → Bool) (x : Nat → Int) : Nat → Int
  | 0 => 0
  | i + 1 => if c i then IntKind.i64.wrap (suS c x i + x i) else suS c x i
def suU (c : Nat → Bool) (x : Nat → Int) : Nat → Int
  | 0 => 0
  | i + 1 => if c i then suU c x i else IntKind.i64.wrap (suU c x i + x i)
def suRow (c : Nat → Bool) (x : Nat → Int) (i : Nat) : AV := .vsl [.int .i64 (if c i then 1 else 0), .int .i64 (x i)] 2
def suOut (c : Nat → Bool) (x : Nat → Int) (i : Nat) : AV := .vsl [.int .i64 (if c i then suS c x (i + 1) else suU c x (i + 1))] 1
def suI (c : Nat → Bool) (x : Nat → Int) (i : Nat) (l : List AObj) : Prop := (∃ p0 p1 p2 p3 p4 p5 p6 p7 p8 p9 p10 p11 p12 p13 p14 p15 p16 p17 p18 p19 p20 p21 p22 p23 p24 p25 p26 p27 p28 p29 p30 p31 p32 p33 : Int, l = suG0 p0 p1 p2 p3 p4 p5 p6 p7 p8 p9 p10 p11 p12 p13 p14 p15 p16 p17 p18 p19 p20 p21 p22 p23 p24 p25 p26 p27 p28 p29 p30 p31 p32 p33 ∧ suS c x i = 0 ∧ suU c x i = 0) ∨ (∃ p0 p1 p2 p3 p4 p5 p6 p7 p8 p9 p10 p11 p12 p13 p14 p15 p16 p17 p18 p19 p20 p21 p22 p23 p24 p25 p26 p27 p28 p29 p30 p31 p32 p33 p34 p35 p36 p37 p38 : Int, l = suG1 p0 p1 p2 p3 p4 p5 p6 p7 p8 p9 p10 p11 p12 p13 p14 p15 p16 p17 p18 p19 p20 p21 p22 p23 p24 p25 p26 p27 p28 p29 p30 p31 p32 p33 p34 p35 p36 p37 p38 ∧ suS c x i = 0 ∧ p29 = suU c x i) ∨ (∃ p0 p1 p2 p3 p4 p5 p6 p7 p8 p9 p10 p11 p12 p13 p14 p15 p16 p17 p18 p19 p20 p21 p22 p23 p24 p25 p26 p27 p28 p29 p30 p31 p32 p33 p34 p35 p36 p37 p38 : Int, l = suG2 p0 p1 p2 p3 p4 p5 p6 p7 p8 p9 p10 p11 p12 p13 p14 p15 p16 p17 p18 p19 p20 p21 p22 p23 p24 p25 p26 p27 p28 p29 p30 p31 p32 p33 p34 p35 p36 p37 p38 ∧ p25 = suS c x i ∧ suU c x i = 0) ∨ (∃ p0 p1 p2 p3 p4 p5 p6 p7 p8 p9 p10 p11 p12 p13 p14 p15 p16 p17 p18 p19 p20 p21 p22 p23 p24 p25 p26 p27 p28 p29 p30 p31 p32 p33 p34 p35 p36 p37 p38 p39 p40 : Int, l = suG3 p0 p1 p2 p3 p4 p5 p6 p7 p8 p9 p10 p11 p12 p13 p14 p15 p16 p17 p18 p19 p20 p21 p22 p23 p24 p25 p26 p27 p28 p29 p30 p31 p32 p33 p34 p35 p36 p37 p38 p39 p40 ∧ p27 = suS c x i ∧ p31 = suU c x i)
theorem sumachine (c : Nat → Bool) (x : Nat → Int) (n : Nat) : ∃ g, MeanMachine (Gof tab) 70 g sunodes ((List.range n).map (suRow c x)) ((List.range n).map (suOut c x)) := by
  refine machine_rel (B := suB) (I := suI c x) ngof (by decide) (.inl ⟨_, _, _, _, _, _, _, _, _, _, _, _, _, _, _, _, _, _, _, _, _, _, _, _, _, _, _, _, _, _, _, _, _, _, rfl, ⟨rfl, rfl⟩⟩) ?_ ?_ ?_ (c0 := .str [102]) (ins := suins) (c2 := .vsl [.str [121], .int .i64 2, .str [], .bool false, .int .i64 95] 1) (c3 := .vsl [] 0) (c4 := .vsl [.str [121], .str [109,101,114,103,101], .str [99], .int .i64 0, .int .i64 112, .vsl [.str [99,97,108,108], .str [115,117,109], .int .i64 0, .int .i64 120, .vsl [.str [119,104,101,110], .str [99], .int .i64 1, .int .i64 126, .vsl [.str [118,97,114], .str [120], .int .i64 0, .int .i64 124, .nilsl] 1] 1, .str [99,97,108,108], .str [115,117,109], .int .i64 0, .int .i64 134, .vsl [.str [119,104,101,110], .str [99], .int .i64 0, .int .i64 140, .vsl [.str [118,97,114], .str [120], .int .i64 0, .int .i64 138, .nilsl] 1] 1] 2, .int .i64 108] 1) (c5 := .int .i64 62) rfl sumain_does ?_ (cn := 3) (by decide) sucount subegun ?_
  · rintro i l (⟨p0, p1, p2, p3, p4, p5, p6, p7, p8, p9, p10, p11, p12, p13, p14, p15, p16, p17, p18, p19, p20, p21, p22, p23, p24, p25, p26, p27, p28, p29, p30, p31, p32, p33, rfl, hp⟩ | ⟨p0, p1, p2, p3, p4, p5, p6, p7, p8, p9, p10, p11, p12, p13, p14, p15, p16, p17, p18, p19, p20, p21, p22, p23, p24, p25, p26, p27, p28, p29, p30, p31, p32, p33, p34, p35, p36, p37, p38, rfl, hp⟩ | ⟨p0, p1, p2, p3, p4, p5, p6, p7, p8, p9, p10, p11, p12, p13, p14, p15, p16, p17, p18, p19, p20, p21, p22, p23, p24, p25, p26, p27, p28, p29, p30, p31, p32, p33, p34, p35, p36, p37, p38, rfl, hp⟩ | ⟨p0, p1, p2, p3, p4, p5, p6, p7, p8, p9, p10, p11, p12, p13, p14, p15, p16, p17, p18, p19, p20, p21, p22, p23, p24, p25, p26, p27, p28, p29, p30, p31, p32, p33, p34, p35, p36, p37, p38, p39, p40, rfl, hp⟩)
    · exact ⟨sulen_0 _ _ _ _ _ _ _ _ _ _ _ _ _ _ _ _ _ _ _ _ _ _ _ _ _ _ _ _ _ _ _ _ _ _, suok_0 _ _ _ _ _ _ _ _ _ _ _ _ _ _ _ _ _ _ _ _ _ _ _ _ _ _ _ _ _ _ _ _ _ _⟩
    · exact ⟨sulen_1 _ _ _ _ _ _ _ _ _ _ _ _ _ _ _ _ _ _ _ _ _ _ _ _ _ _ _ _ _ _ _ _ _ _ _ _ _ _ _, suok_1 _ _ _ _ _ _ _ _ _ _ _ _ _ _ _ _ _ _ _ _ _ _ _ _ _ _ _ _ _ _ _ _ _ _ _ _ _ _ _⟩
    · exact ⟨sulen_2 _ _ _ _ _ _ _ _ _ _ _ _ _ _ _ _ _ _ _ _ _ _ _ _ _ _ _ _ _ _ _ _ _ _ _ _ _ _ _, suok_2 _ _ _ _ _ _ _ _ _ _ _ _ _ _ _ _ _ _ _ _ _ _ _ _ _ _ _ _ _ _ _ _ _ _ _ _ _ _ _⟩
    · exact ⟨sulen_3 _ _ _ _ _ _ _ _ _ _ _ _ _ _ _ _ _ _ _ _ _ _ _ _ _ _ _ _ _ _ _ _ _ _ _ _ _ _ _ _ _, suok_3 _ _ _ _ _ _ _ _ _ _ _ _ _ _ _ _ _ _ _ _ _ _ _ _ _ _ _ _ _ _ _ _ _ _ _ _ _ _ _ _ _⟩
  · intro i _
    exact ⟨rfl, fun _ => rfl⟩
  · intro i _
    exact ⟨rfl, rfl, fun _ => rfl⟩
  · intro i _ H
    by_cases hc : c i = true
    · rw [show suRow c x i = .vsl [.int .i64 1, .int .i64 (x i)] 2 by simp [suRow, hc]]
      exact sufits_1i (x i) H
    · rw [show suRow c x i = .vsl [.int .i64 0, .int .i64 (x i)] 2 by simp [suRow, hc]]
      exact sufits_0i (x i) H
  · rintro i l hin (⟨p0, p1, p2, p3, p4, p5, p6, p7, p8, p9, p10, p11, p12, p13, p14, p15, p16, p17, p18, p19, p20, p21, p22, p23, p24, p25, p26, p27, p28, p29, p30, p31, p32, p33, rfl, hp⟩ | ⟨p0, p1, p2, p3, p4, p5, p6, p7, p8, p9, p10, p11, p12, p13, p14, p15, p16, p17, p18, p19, p20, p21, p22, p23, p24, p25, p26, p27, p28, p29, p30, p31, p32, p33, p34, p35, p36, p37, p38, rfl, hp⟩ | ⟨p0, p1, p2, p3, p4, p5, p6, p7, p8, p9, p10, p11, p12, p13, p14, p15, p16, p17, p18, p19, p20, p21, p22, p23, p24, p25, p26, p27, p28, p29, p30, p31, p32, p33, p34, p35, p36, p37, p38, rfl, hp⟩ | ⟨p0, p1, p2, p3, p4, p5, p6, p7, p8, p9, p10, p11, p12, p13, p14, p15, p16, p17, p18, p19, p20, p21, p22, p23, p24, p25, p26, p27, p28, p29, p30, p31, p32, p33, p34, p35, p36, p37, p38, p39, p40, rfl, hp⟩)
    · by_cases hc : c i = true
      · rw [show suRow c x i = .vsl [.int .i64 1, .int .i64 (x i)] 2 by simp [suRow, hc]]
        refine ⟨_, .inr (.inr (.inl ⟨_, _, _, _, _, _, _, _, _, _, _, _, _, _, _, _, _, _, _, _, _, _, _, _, _, _, _, _, _, _, _, _, _, _, _, _, _, _, _, rfl, ?_⟩)), (sutick_0_1i _ _ _ _ _ _ _ _ _ _ _ _ _ _ _ _ _ _ _ _ _ _ _ _ _ _ _ _ _ _ _ _ _ _ (x i)).mono fun r h ⟨e1, e2⟩ => ⟨e1.trans ?_, e2⟩⟩
        · simp [suS, suU, hc, fwrap_eq, iadd_eq, hp.1, hp.2, Int.add_comm]
        · simp [suOut, suS, suU, hc, fwrap_eq, iadd_eq, hp.1, hp.2, Int.add_comm]
      · rw [show suRow c x i = .vsl [.int .i64 0, .int .i64 (x i)] 2 by simp [suRow, hc]]
        refine ⟨_, .inr (.inl ⟨_, _, _, _, _, _, _, _, _, _, _, _, _, _, _, _, _, _, _, _, _, _, _, _, _, _, _, _, _, _, _, _, _, _, _, _, _, _, _, rfl, ?_⟩), (sutick_0_0i _ _ _ _ _ _ _ _ _ _ _ _ _ _ _ _ _ _ _ _ _ _ _ _ _ _ _ _ _ _ _ _ _ _ (x i)).mono fun r h ⟨e1, e2⟩ => ⟨e1.trans ?_, e2⟩⟩
        · simp [suS, suU, hc, fwrap_eq, iadd_eq, hp.1, hp.2, Int.add_comm]
        · simp [suOut, suS, suU, hc, fwrap_eq, iadd_eq, hp.1, hp.2, Int.add_comm]
    · by_cases hc : c i = true
      · rw [show suRow c x i = .vsl [.int .i64 1, .int .i64 (x i)] 2 by simp [suRow, hc]]
        refine ⟨_, .inr (.inr (.inr (⟨_, _, _, _, _, _, _, _, _, _, _, _, _, _, _, _, _, _, _, _, _, _, _, _, _, _, _, _, _, _, _, _, _, _, _, _, _, _, _, _, _, rfl, ?_⟩))), (sutick_1_1i _ _ _ _ _ _ _ _ _ _ _ _ _ _ _ _ _ _ _ _ _ _ _ _ _ _ _ _ _ _ _ _ _ _ _ _ _ _ _ (x i)).mono fun r h ⟨e1, e2⟩ => ⟨e1.trans ?_, e2⟩⟩
        · simp [suS, suU, hc, fwrap_eq, iadd_eq, hp.1, hp.2, Int.add_comm]
        · simp [suOut, suS, suU, hc, fwrap_eq, iadd_eq, hp.1, hp.2, Int.add_comm]
      · rw [show suRow c x i = .vsl [.int .i64 0, .int .i64 (x i)] 2 by simp [suRow, hc]]
        refine ⟨_, .inr (.inl ⟨_, _, _, _, _, _, _, _, _, _, _, _, _, _, _, _, _, _, _, _, _, _, _, _, _, _, _, _, _, _, _, _, _, _, _, _, _, _, _, rfl, ?_⟩), (sutick_1_0i _ _ _ _ _ _ _ _ _ _ _ _ _ _ _ _ _ _ _ _ _ _ _ _ _ _ _ _ _ _ _ _ _ _ _ _ _ _ _ (x i)).mono fun r h ⟨e1, e2⟩ => ⟨e1.trans ?_, e2⟩⟩
        · simp [suS, suU, hc, fwrap_eq, iadd_eq, hp.1, hp.2, Int.add_comm]
        · simp [suOut, suS, suU, hc, fwrap_eq, iadd_eq, hp.1, hp.2, Int.add_comm]
    · by_cases hc : c i = true
      · rw [show suRow c x i = .vsl [.int .i64 1, .int .i64 (x i)] 2 by simp [suRow, hc]]
        refine ⟨_, .inr (.inr (.inl ⟨_, _, _, _, _, _, _, _, _, _, _, _, _, _, _, _, _, _, _, _, _, _, _, _, _, _, _, _, _, _, _, _, _, _, _, _, _, _, _, rfl, ?_⟩)), (sutick_2_1i _ _ _ _ _ _ _ _ _ _ _ _ _ _ _ _ _ _ _ _ _ _ _ _ _ _ _ _ _ _ _ _ _ _ _ _ _ _ _ (x i)).mono fun r h ⟨e1, e2⟩ => ⟨e1.trans ?_, e2⟩⟩
        · simp [suS, suU, hc, fwrap_eq, iadd_eq, hp.1, hp.2, Int.add_comm]
        · simp [suOut, suS, suU, hc, fwrap_eq, iadd_eq, hp.1, hp.2, Int.add_comm]
      · rw [show suRow c x i = .vsl [.int .i64 0, .int .i64 (x i)] 2 by simp [suRow, hc]]
        refine ⟨_, .inr (.inr (.inr (⟨_, _, _, _, _, _, _, _, _, _, _, _, _, _, _, _, _, _, _, _, _, _, _, _, _, _, _, _, _, _, _, _, _, _, _, _, _, _, _, _, _, rfl, ?_⟩))), (sutick_2_0i _ _ _ _ _ _ _ _ _ _ _ _ _ _ _ _ _ _ _ _ _ _ _ _ _ _ _ _ _ _ _ _ _ _ _ _ _ _ _ (x i)).mono fun r h ⟨e1, e2⟩ => ⟨e1.trans ?_, e2⟩⟩
        · simp [suS, suU, hc, fwrap_eq, iadd_eq, hp.1, hp.2, Int.add_comm]
        · simp [suOut, suS, suU, hc, fwrap_eq, iadd_eq, hp.1, hp.2, Int.add_comm]
    · by_cases hc : c i = true
      · rw [show suRow c x i = .vsl [.int .i64 1, .int .i64 (x i)] 2 by simp [suRow, hc]]
        refine ⟨_, .inr (.inr (.inr (⟨_, _, _, _, _, _, _, _, _, _, _, _, _, _, _, _, _, _, _, _, _, _, _, _, _, _, _, _, _, _, _, _, _, _, _, _, _, _, _, _, _, rfl, ?_⟩))), (sutick_3_1i _ _ _ _ _ _ _ _ _ _ _ _ _ _ _ _ _ _ _ _ _ _ _ _ _ _ _ _ _ _ _ _ _ _ _ _ _ _ _ _ _ (x i)).mono fun r h ⟨e1, e2⟩ => ⟨e1.trans ?_, e2⟩⟩
        · simp [suS, suU, hc, fwrap_eq, iadd_eq, hp.1, hp.2, Int.add_comm]
        · simp [suOut, suS, suU, hc, fwrap_eq, iadd_eq, hp.1, hp.2, Int.add_comm]
      · rw [show suRow c x i = .vsl [.int .i64 0, .int .i64 (x i)] 2 by simp [suRow, hc]]
        refine ⟨_, .inr (.inr (.inr (⟨_, _, _, _, _, _, _, _, _, _, _, _, _, _, _, _, _, _, _, _, _, _, _, _, _, _, _, _, _, _, _, _, _, _, _, _, _, _, _, _, _, rfl, ?_⟩))), (sutick_3_0i _ _ _ _ _ _ _ _ _ _ _ _ _ _ _ _ _ _ _ _ _ _ _ _ _ _ _ _ _ _ _ _ _ _ _ _ _ _ _ _ _ (x i)).mono fun r h ⟨e1, e2⟩ => ⟨e1.trans ?_, e2⟩⟩
        · simp [suS, suU, hc, fwrap_eq, iadd_eq, hp.1, hp.2, Int.add_comm]
        · simp [suOut, suS, suU, hc, fwrap_eq, iadd_eq, hp.1, hp.2, Int.add_comm]
end Go.Proofs.YtnnlgafmpobdhaaGreatDoor

/-
  MeanSums: a node that adds up, on a clock, adds up what came while its name was so.
-/


namespace Go.Proofs.YtnnlgafmpobdhaaGreatDoor
open Go Go.Abs Go.Lex Go.RowKit
set_option maxRecDepth 100000
set_option linter.unusedVariables false
set_option linter.unusedSimpArgs false

def suIn (c : Nat → Bool) (x : Nat → Int) (k : Nat) : List Int := [if c k then 1 else 0, x k]
def suWant (c : Nat → Bool) (x : Nat → Int) (k : Nat) : List Int := [if c k then suS c x (k + 1) else suU c x (k + 1)]

set_option maxHeartbeats 4000000 in
theorem sulaw_run (c : Nat → Bool) (x : Nat → Int) (n m : Nat) (a0 a1 : AV) (h0 : Arr (fun k => .bool (c k)) n a0) (h1 : Arr (fun k => .int .i64 (x k)) m a1) (H : AHeap) :
    Does Tryz.prog (Gof tab) 5 [a0, a1] H fun r _ => r = .bool true := by
  refine Does.wf Tryz.call5 fun hw _ => ?_
  have e0 := alen_bools h0
  have e1 := alen_ints h1
  refine does_f Tryz.call5 Tryz.func5 rfl (by simp [Tryz.f5]) ?_
  simp
  refine does_use (awake12 _) ?_
  rintro _ HX ⟨rfl, hHX⟩
  rw [hHX]
  clear hHX HX
  simp [e0, e1, -alen]
  by_cases hn : 40 < n
  · have : (40 : Int) < n := by omega
    simp [this, e0, e1, -alen]
  have hn' : ¬ ((40 : Int) < n) := by omega
  by_cases hm : m = n
  case neg =>
    have : ((m : Int) != n) = true := by simp; omega
    simp [hn', this, e0, e1, -alen]
  subst hm
  simp [hn', e0, e1, -alen]
  refine aws_loops (fun k T' H' => ∃ i : Nat, i + k = m ∧ T' 0 = a0 ∧ T' 1 = a1 ∧ T' 9 = .int .i64 i ∧ T' 7 = .int .i64 (suS c x i) ∧ T' 8 = .int .i64 (suU c x i) ∧ Rows2 H H' (T' 6) (T' 5) (suWant c x) 1 (suIn c x) 2 i) m ?_ ?_
  · exact ⟨0, by simp, by simp, by simp, by simp, by simp [suS, suU], by simp [suS, suU], by simpa using Rows2.init H _ _ _ _⟩
  rintro k T H1 ⟨i, hik, t0, t1, t9, t7, t8, hR⟩ hw1 _
  by_cases hi : i < m
  · have hii : (i : Int) < m := by omega
    have p0 := arr_pos h0 (by omega)
    have p1 := arr_pos h1 (by omega)
    have q0 := at_range (f := fun k => AV.bool (c k)) hi
    have q1 := at_range (f := fun k => AV.int .i64 (x k)) hi
    rw [p0] at t0 e0
    rw [p1] at t1 e1
    refine aws_f ?_
    have wr : IntKind.i64.wrap ((i : Int) + 1) = ((i + 1 : Nat) : Int) := by rw [IntWalk.i64_in _ (by omega)]; omega
    by_cases hi0 : i = 0
    · subst hi0
      obtain ⟨t6, t5⟩ := hR.zero
      have hcs : (c 0 = false) ∨ (c 0 = true) := by cases c 0 <;> simp
      rcases hcs with hc | hc
      · simp [t0, t1, t9, t7, t8, t6, t5, e0, e1, hi, hii, q0, q1, hc, -alen]
        exact ⟨k - 1, by omega, 1, by omega, p0.symm, p1.symm, wr, by simp [suS, suU, hc], by simp [suS, suU, hc], hR.first hw (by simp [ri, suWant, suS, suU, hc]) (by simp [ri, suIn, hc])⟩
      · simp [t0, t1, t9, t7, t8, t6, t5, e0, e1, hi, hii, q0, q1, hc, -alen]
        exact ⟨k - 1, by omega, 1, by omega, p0.symm, p1.symm, wr, by simp [suS, suU, hc], by simp [suS, suU, hc], hR.first hw (by simp [ri, suWant, suS, suU, hc]) (by simp [ri, suIn, hc])⟩
    · obtain ⟨b1, b2, ρ1, ρ2, t6, t5, hg1, hg2, hb1l, hb2l, n8, hR'⟩ := hR.more (by omega) hw
      have n1 : b1 ≠ H1.next := by omega
      have n2 : b1 ≠ H1.next + 1 := by omega
      have n3 : b2 ≠ H1.next := by omega
      have n4 : b2 ≠ H1.next + 1 := by omega
      have n5 : b2 ≠ H1.next + 1 + 1 := by omega
      have n6 : b2 ≠ H1.next + 1 + 1 + 1 := by omega
      have n7 : b2 ≠ H1.next + 1 + 1 + 1 + 1 := by omega
      have hgrow : ¬ (i + 1 ≤ i) := by omega
      have g3 : (i + 1) * 24 ≤ 140737488355328 := by omega
      have g4 : i ≤ 4611686018427387903 := by omega
      have k1 : List.take i (List.map (fun k => AV.sl (ρ1 k) 0 1 1 1 false) (List.range i)) = List.map (fun k => AV.sl (ρ1 k) 0 1 1 1 false) (List.range i) := List.take_of_length_le (by simp)
      have k2 : List.take i (List.map (fun k => AV.sl (ρ2 k) 0 1 2 2 false) (List.range i)) = List.map (fun k => AV.sl (ρ2 k) 0 1 2 2 false) (List.range i) := List.take_of_length_le (by simp)
      have hcs : (c i = false) ∨ (c i = true) := by cases c i <;> simp
      rcases hcs with hc | hc
      · simp [t0, t1, t9, t7, t8, t6, t5, e0, e1, hi, hii, q0, q1, hc, hg1, hg2, n1, n2, n3, n4, n5, n6, n7, n8, hgrow, g3, g4, k1, k2, -alen, -List.map_take]
        exact ⟨k - 1, by omega, i + 1, by omega, p0.symm, p1.symm, wr, by simp [suS, suU, hc], by simp [suS, suU, hc], hR' _ _ (by simp [ri, suWant, suS, suU, hc]) (by simp [ri, suIn, hc])⟩
      · simp [t0, t1, t9, t7, t8, t6, t5, e0, e1, hi, hii, q0, q1, hc, hg1, hg2, n1, n2, n3, n4, n5, n6, n7, n8, hgrow, g3, g4, k1, k2, -alen, -List.map_take]
        exact ⟨k - 1, by omega, i + 1, by omega, p0.symm, p1.symm, wr, by simp [suS, suU, hc], by simp [suS, suU, hc], hR' _ _ (by simp [ri, suWant, suS, suU, hc]) (by simp [ri, suIn, hc])⟩
  · obtain rfl : i = m := by omega
    refine aws_two 6 5 hw hR (fun _ => rfl) (fun _ => rfl) fun T2 f6 f5 ft => aws_f ?_
    have u0 : T2 0 = a0 := (ft 0 (by decide) (by decide)).trans t0
    have u9 : T2 9 = .int .i64 (i : Nat) := (ft 9 (by decide) (by decide)).trans t9
    simp [u0, u9, f6, f5, e0, e1, -alen]
    obtain ⟨g, M⟩ := sumachine c x i
    have ho := fun H => all_true (G := Gof tab) ((List.range i).map (suWant c x)) (by simp; omega) (fun l hl => by
      obtain ⟨k, _, rfl⟩ := List.mem_map.1 hl
      exact Nat.lt_of_le_of_lt (Nat.le_of_eq rfl : (suWant c x k).length ≤ 1) (by decide)) H
    rw [← rows_outs (out := suOut c x) (fun _ => rfl)] at ho
    have hsc : (rowsV ((List.range i).map (suOut c x))).scalar = true := by unfold rowsV; split <;> rfl
    refine does_use (m_text M (by decide) (by simp; omega) sucheck _) ?_
    rintro _ HX ⟨rfl, hHX⟩
    rw [hHX]
    clear hHX HX
    simp [u0, u9, f6, f5, e0, e1, hsc, -alen]
    refine does_use (ho _) ?_
    rintro _ HX ⟨rfl, hHX⟩
    rw [hHX]
    clear hHX HX
    simp

theorem sulaw_any (H : AHeap) (a0 : AV) (a1 : AV) (s0 : Shp Tryz.prog 8 36 [a0]) (s1 : Shp Tryz.prog 8 30 [a1]) : Does Tryz.prog (Gof tab) 5 [a0, a1] H fun r _ => r = .bool true := by
  obtain ⟨n0, c0, _, h0⟩ := shp_bools Tryz.underlying36 Tryz.underlying4 s0
  obtain ⟨n1, c1, _, _, h1⟩ := shp_ints Tryz.underlying30 Tryz.underlying2 s1
  exact sulaw_run c0 c1 n0 n1 a0 a1 h0 h1 H
end Go.Proofs.YtnnlgafmpobdhaaGreatDoor
