/-
  Own library of this claim, part 5: texts one behind the other (MnFi, MnFiM, MnFiL).
-/
import Derived.Test.YtnnlgafmpobdhaaGreatDoorLibD

/-
  A program's machine, known by the evaluator: node f(c: bool; x: int) returns (y: int); let y = merge c (100 -> (x when c)) (0 - 1); tel
-/

namespace Go.Proofs.YtnnlgafmpobdhaaGreatDoor
open Go Go.Abs Go.RowKit
set_option maxRecDepth 100000
set_option linter.unusedVariables false

def fitext : List UInt8 := [110,111,100,101,32,102,40,99,58,32,98,111,111,108,59,32,120,58,32,105,110,116,41,32,114,101,116,117,114,110,115,32,40,121,58,32,105,110,116,41,59,32,108,101,116,32,121,32,61,32,109,101,114,103,101,32,99,32,40,49,48,48,32,45,62,32,40,120,32,119,104,101,110,32,99,41,41,32,40,48,32,45,32,49,41,59,32,116,101,108]
def ficells : List AV := [.str [102], .vsl [.str [99], .int .i64 1, .str [], .bool false, .int .i64 7, .str [120], .int .i64 2, .str [], .bool false, .int .i64 16] 2, .vsl [.str [121], .int .i64 2, .str [], .bool false, .int .i64 33] 1, .nilsl, .vsl [.str [121], .str [109,101,114,103,101], .str [99], .int .i64 0, .int .i64 50, .vsl [.str [45,62], .str [], .int .i64 0, .int .i64 63, .vsl [.str [105,110,116], .str [], .int .i64 100, .int .i64 59, .nilsl, .str [119,104,101,110], .str [99], .int .i64 1, .int .i64 69, .vsl [.str [118,97,114], .str [120], .int .i64 0, .int .i64 67, .nilsl] 1] 2, .str [45], .str [], .int .i64 0, .int .i64 81, .vsl [.str [105,110,116], .str [], .int .i64 0, .int .i64 79, .nilsl, .str [105,110,116], .str [], .int .i64 1, .int .i64 83, .nilsl] 2] 2, .int .i64 46] 1, .int .i64 0]
def finodes : AV := .vsl ficells 1
def fiok : AV := .agg [.int .i64 0, .int .i64 0]
def filit : AV := .tuple [finodes, fiok]
def fiins : AV := .vsl [.str [99], .int .i64 1, .str [], .bool false, .int .i64 7, .str [120], .int .i64 2, .str [], .bool false, .int .i64 16] 2
def fimain : AV := .agg [.str [102], fiins, .vsl [.str [121], .int .i64 2, .str [], .bool false, .int .i64 33] 1, .vsl [] 0, .vsl [.str [121], .str [109,101,114,103,101], .str [99], .int .i64 0, .int .i64 50, .vsl [.str [45,62], .str [], .int .i64 0, .int .i64 63, .vsl [.str [105,110,116], .str [], .int .i64 100, .int .i64 59, .nilsl, .str [119,104,101,110], .str [99], .int .i64 1, .int .i64 69, .vsl [.str [118,97,114], .str [120], .int .i64 0, .int .i64 67, .nilsl] 1] 2, .str [45], .str [], .int .i64 0, .int .i64 81, .vsl [.str [105,110,116], .str [], .int .i64 0, .int .i64 79, .nilsl, .str [105,110,116], .str [], .int .i64 1, .int .i64 83, .nilsl] 2] 2, .int .i64 46] 1, .int .i64 0]
theorem fiparse_run : fcall knownW Tryz.prog (Gof tab) 100000 300 18 [.str fitext] FH.empty (litK filit) = true := by kernel_rfl
theorem fiparse (H : AHeap) : Does Tryz.prog (Gof tab) 18 [.str fitext] H fun r h => r = filit ∧ h = H :=
  lit_does nmixed nplain knownW_good ngof (by kernel_rfl) (by kernel_rfl) fiparse_run H
theorem fitree_run : fcall knownW Tryz.prog (Gof tab) 100000 300 19 [finodes] FH.empty (litK fiok) = true := by kernel_rfl
theorem fitree (H : AHeap) : Does Tryz.prog (Gof tab) 19 [finodes] H fun r h => r = fiok ∧ h = H :=
  lit_does nmixed nplain knownW_good ngof (by kernel_rfl) (by kernel_rfl) fitree_run H
noncomputable def fiknown : Ov := ovAdd 18 (litOv [([.str fitext], filit)]) (ovAdd 19 (litOv [([finodes], fiok)]) knownW)
theorem fiknown_good : OvGoodK Tryz.prog (Gof tab) fiknown := ovAdd_good (litOv_good fun e he H => by
  simp only [List.mem_cons, List.not_mem_nil, or_false] at he
  subst he
  exact fiparse H) (ovAdd_good (litOv_good fun e he H => by
  simp only [List.mem_cons, List.not_mem_nil, or_false] at he
  subst he
  exact fitree H) knownW_good)
theorem ficheck_run : fcall fiknown Tryz.prog (Gof tab) 100000 300 15 [.str fitext] FH.empty (litK filit) = true := by kernel_rfl
theorem ficheck (H : AHeap) : Does Tryz.prog (Gof tab) 15 [.str fitext] H fun r h => r = filit ∧ h = H :=
  lit_does nmixed nplain fiknown_good ngof (by kernel_rfl) (by kernel_rfl) ficheck_run H
theorem fimain_run : fcall knownW Tryz.prog (Gof tab) 100000 300 20 [finodes] FH.empty (litK fimain) = true := by kernel_rfl
theorem fimain_does (H : AHeap) : Does Tryz.prog (Gof tab) 20 [finodes] H fun r h => r = fimain ∧ h = H :=
  lit_does nmixed nplain knownW_good ngof (by kernel_rfl) (by kernel_rfl) fimain_run H
theorem ficount_run : fcall knownW Tryz.prog (Gof tab) 100000 300 22 [finodes] FH.empty (litK (.int .i64 1)) = true := by kernel_rfl
theorem ficount (H : AHeap) : Does Tryz.prog (Gof tab) 22 [finodes] H fun r h => r = .int .i64 1 ∧ h = H :=
  lit_does nmixed nplain knownW_good ngof (by kernel_rfl) (by kernel_rfl) ficount_run H

def fiG0 (p0 p1 p2 p3 p4 p5 p6 p7 p8 p9 p10 p11 p12 p13 p14 p15 : Int) : List AObj := [
  .cells [.str [102], .sl 1 0 5 2 2 true, .sl 2 0 5 1 1 true, .sl 3 0 5 0 0 false, .sl 4 0 7 1 1 true, .int .i64 0, .sl 5 0 1 1 1 true, .map 6, .map 7, .nilsl],
  .cells [.str [99], .int .i64 1, .str [], .bool false, .int .i64 7, .str [120], .int .i64 2, .str [], .bool false, .int .i64 16],
  .cells [.str [121], .int .i64 2, .str [], .bool false, .int .i64 33],
  .cells [],
  .cells [.str [121], .str [109,101,114,103,101], .str [99], .int .i64 0, .int .i64 50, .sl 8 0 5 2 2 true, .int .i64 46],
  .cells [.str [121]],
  .map [(.str [121], .ptr 9 0)],
  .map [],
  .cells [.str [45,62], .str [], .int .i64 0, .int .i64 63, .sl 10 0 5 2 2 true, .str [45], .str [], .int .i64 0, .int .i64 81, .sl 11 0 5 2 2 true],
  .cells [.str [109,101,114,103,101], .str [99], .int .i64 0, .int .i64 50, .nilsl, .nilsl, .sl 12 0 8 2 2 true, .bool false, .sl 13 0 1 2 2 true, .nilptr, .bool false, .int .i64 p0, .int .i64 p1],
  .cells [.str [105,110,116], .str [], .int .i64 100, .int .i64 59, .nilsl, .str [119,104,101,110], .str [99], .int .i64 1, .int .i64 69, .sl 14 0 5 1 1 true],
  .cells [.str [105,110,116], .str [], .int .i64 0, .int .i64 79, .nilsl, .str [105,110,116], .str [], .int .i64 1, .int .i64 83, .nilsl],
  .cells [.str [45,62], .str [], .int .i64 0, .int .i64 63, .nilsl, .sl 15 0 2 1 1 true, .sl 16 0 8 2 2 true, .bool false, .str [45], .str [], .int .i64 0, .int .i64 81, .nilsl, .sl 17 0 2 1 1 true, .sl 18 0 8 2 2 true, .bool true],
  .cells [.ptr 19 0, .ptr 20 0],
  .cells [.str [118,97,114], .str [120], .int .i64 0, .int .i64 67, .nilsl],
  .cells [.str [99], .bool false],
  .cells [.str [105,110,116], .str [], .int .i64 100, .int .i64 59, .nilsl, .sl 15 0 2 1 1 true, .nilsl, .bool true, .str [119,104,101,110], .str [99], .int .i64 1, .int .i64 69, .nilsl, .sl 15 0 2 1 1 true, .sl 21 0 8 1 1 true, .bool false],
  .cells [.str [99], .bool true],
  .cells [.str [105,110,116], .str [], .int .i64 0, .int .i64 79, .nilsl, .sl 17 0 2 1 1 true, .nilsl, .bool true, .str [105,110,116], .str [], .int .i64 1, .int .i64 83, .nilsl, .sl 17 0 2 1 1 true, .nilsl, .bool true],
  .cells [.str [45,62], .str [], .int .i64 0, .int .i64 63, .nilsl, .sl 15 0 2 1 1 true, .sl 16 0 8 2 2 true, .bool false, .sl 22 0 1 2 2 true, .nilptr, .bool false, .int .i64 p2, .int .i64 p3],
  .cells [.str [45], .str [], .int .i64 0, .int .i64 81, .nilsl, .sl 17 0 2 1 1 true, .sl 18 0 8 2 2 true, .bool true, .sl 23 0 1 2 2 true, .nilptr, .bool false, .int .i64 p4, .int .i64 p5],
  .cells [.str [118,97,114], .str [120], .int .i64 0, .int .i64 67, .nilsl, .nilsl, .nilsl, .bool false],
  .cells [.ptr 24 0, .ptr 25 0],
  .cells [.ptr 26 0, .ptr 27 0],
  .cells [.str [105,110,116], .str [], .int .i64 100, .int .i64 59, .nilsl, .sl 15 0 2 1 1 true, .nilsl, .bool true, .nilsl, .nilptr, .bool false, .int .i64 p6, .int .i64 p7],
  .cells [.str [119,104,101,110], .str [99], .int .i64 1, .int .i64 69, .nilsl, .sl 15 0 2 1 1 true, .sl 21 0 8 1 1 true, .bool false, .sl 28 0 1 1 1 true, .nilptr, .bool false, .int .i64 p8, .int .i64 p9],
  .cells [.str [105,110,116], .str [], .int .i64 0, .int .i64 79, .nilsl, .sl 17 0 2 1 1 true, .nilsl, .bool true, .nilsl, .nilptr, .bool false, .int .i64 p10, .int .i64 p11],
  .cells [.str [105,110,116], .str [], .int .i64 1, .int .i64 83, .nilsl, .sl 17 0 2 1 1 true, .nilsl, .bool true, .nilsl, .nilptr, .bool false, .int .i64 p12, .int .i64 p13],
  .cells [.ptr 29 0],
  .cells [.str [118,97,114], .str [120], .int .i64 0, .int .i64 67, .nilsl, .nilsl, .nilsl, .bool false, .nilsl, .nilptr, .bool false, .int .i64 p14, .int .i64 p15]]
def fiG1 (p0 p1 p2 p3 p4 p5 p6 p7 p8 p9 p10 p11 p12 p13 p14 p15 p16 p17 p18 : Int) : List AObj := [
  .cells [.str [102], .sl 1 0 5 2 2 true, .sl 2 0 5 1 1 true, .sl 3 0 5 0 0 false, .sl 4 0 7 1 1 true, .int .i64 0, .sl 5 0 1 1 1 true, .map 6, .map 7, .nilsl],
  .cells [.str [99], .int .i64 1, .str [], .bool false, .int .i64 7, .str [120], .int .i64 2, .str [], .bool false, .int .i64 16],
  .cells [.str [121], .int .i64 2, .str [], .bool false, .int .i64 33],
  .cells [],
  .cells [.str [121], .str [109,101,114,103,101], .str [99], .int .i64 0, .int .i64 50, .sl 8 0 5 2 2 true, .int .i64 46],
  .cells [.str [121]],
  .map [(.str [121], .ptr 9 0)],
  .map [(.str [99], .int .i64 p0), (.str [120], .int .i64 p1), (.str [121], .int .i64 p2)],
  .cells [.str [45,62], .str [], .int .i64 0, .int .i64 63, .sl 10 0 5 2 2 true, .str [45], .str [], .int .i64 0, .int .i64 81, .sl 11 0 5 2 2 true],
  .cells [.str [109,101,114,103,101], .str [99], .int .i64 0, .int .i64 50, .nilsl, .nilsl, .sl 12 0 8 2 2 true, .bool false, .sl 13 0 1 2 2 true, .nilptr, .bool false, .int .i64 p3, .int .i64 p4],
  .cells [.str [105,110,116], .str [], .int .i64 100, .int .i64 59, .nilsl, .str [119,104,101,110], .str [99], .int .i64 1, .int .i64 69, .sl 14 0 5 1 1 true],
  .cells [.str [105,110,116], .str [], .int .i64 0, .int .i64 79, .nilsl, .str [105,110,116], .str [], .int .i64 1, .int .i64 83, .nilsl],
  .cells [.str [45,62], .str [], .int .i64 0, .int .i64 63, .nilsl, .sl 15 0 2 1 1 true, .sl 16 0 8 2 2 true, .bool false, .str [45], .str [], .int .i64 0, .int .i64 81, .nilsl, .sl 17 0 2 1 1 true, .sl 18 0 8 2 2 true, .bool true],
  .cells [.ptr 19 0, .ptr 20 0],
  .cells [.str [118,97,114], .str [120], .int .i64 0, .int .i64 67, .nilsl],
  .cells [.str [99], .bool false],
  .cells [.str [105,110,116], .str [], .int .i64 100, .int .i64 59, .nilsl, .sl 15 0 2 1 1 true, .nilsl, .bool true, .str [119,104,101,110], .str [99], .int .i64 1, .int .i64 69, .nilsl, .sl 15 0 2 1 1 true, .sl 21 0 8 1 1 true, .bool false],
  .cells [.str [99], .bool true],
  .cells [.str [105,110,116], .str [], .int .i64 0, .int .i64 79, .nilsl, .sl 17 0 2 1 1 true, .nilsl, .bool true, .str [105,110,116], .str [], .int .i64 1, .int .i64 83, .nilsl, .sl 17 0 2 1 1 true, .nilsl, .bool true],
  .cells [.str [45,62], .str [], .int .i64 0, .int .i64 63, .nilsl, .sl 15 0 2 1 1 true, .sl 16 0 8 2 2 true, .bool false, .sl 22 0 1 2 2 true, .nilptr, .bool false, .int .i64 p5, .int .i64 p6],
  .cells [.str [45], .str [], .int .i64 0, .int .i64 81, .nilsl, .sl 17 0 2 1 1 true, .sl 18 0 8 2 2 true, .bool true, .sl 23 0 1 2 2 true, .nilptr, .bool false, .int .i64 p7, .int .i64 p8],
  .cells [.str [118,97,114], .str [120], .int .i64 0, .int .i64 67, .nilsl, .nilsl, .nilsl, .bool false],
  .cells [.ptr 24 0, .ptr 25 0],
  .cells [.ptr 26 0, .ptr 27 0],
  .cells [.str [105,110,116], .str [], .int .i64 100, .int .i64 59, .nilsl, .sl 15 0 2 1 1 true, .nilsl, .bool true, .nilsl, .nilptr, .bool false, .int .i64 p9, .int .i64 p10],
  .cells [.str [119,104,101,110], .str [99], .int .i64 1, .int .i64 69, .nilsl, .sl 15 0 2 1 1 true, .sl 21 0 8 1 1 true, .bool false, .sl 28 0 1 1 1 true, .nilptr, .bool false, .int .i64 p11, .int .i64 p12],
  .cells [.str [105,110,116], .str [], .int .i64 0, .int .i64 79, .nilsl, .sl 17 0 2 1 1 true, .nilsl, .bool true, .nilsl, .nilptr, .bool false, .int .i64 p13, .int .i64 p14],
  .cells [.str [105,110,116], .str [], .int .i64 1, .int .i64 83, .nilsl, .sl 17 0 2 1 1 true, .nilsl, .bool true, .nilsl, .nilptr, .bool false, .int .i64 p15, .int .i64 p16],
  .cells [.ptr 29 0],
  .cells [.str [118,97,114], .str [120], .int .i64 0, .int .i64 67, .nilsl, .nilsl, .nilsl, .bool false, .nilsl, .nilptr, .bool false, .int .i64 p17, .int .i64 p18]]
def fiG2 (p0 p1 p2 p3 p4 p5 p6 p7 p8 p9 p10 p11 p12 p13 p14 p15 p16 p17 p18 : Int) : List AObj := [
  .cells [.str [102], .sl 1 0 5 2 2 true, .sl 2 0 5 1 1 true, .sl 3 0 5 0 0 false, .sl 4 0 7 1 1 true, .int .i64 0, .sl 5 0 1 1 1 true, .map 6, .map 7, .nilsl],
  .cells [.str [99], .int .i64 1, .str [], .bool false, .int .i64 7, .str [120], .int .i64 2, .str [], .bool false, .int .i64 16],
  .cells [.str [121], .int .i64 2, .str [], .bool false, .int .i64 33],
  .cells [],
  .cells [.str [121], .str [109,101,114,103,101], .str [99], .int .i64 0, .int .i64 50, .sl 8 0 5 2 2 true, .int .i64 46],
  .cells [.str [121]],
  .map [(.str [121], .ptr 9 0)],
  .map [(.str [99], .int .i64 p0), (.str [120], .int .i64 p1), (.str [121], .int .i64 p2)],
  .cells [.str [45,62], .str [], .int .i64 0, .int .i64 63, .sl 10 0 5 2 2 true, .str [45], .str [], .int .i64 0, .int .i64 81, .sl 11 0 5 2 2 true],
  .cells [.str [109,101,114,103,101], .str [99], .int .i64 0, .int .i64 50, .nilsl, .nilsl, .sl 12 0 8 2 2 true, .bool false, .sl 13 0 1 2 2 true, .nilptr, .bool false, .int .i64 p3, .int .i64 p4],
  .cells [.str [105,110,116], .str [], .int .i64 100, .int .i64 59, .nilsl, .str [119,104,101,110], .str [99], .int .i64 1, .int .i64 69, .sl 14 0 5 1 1 true],
  .cells [.str [105,110,116], .str [], .int .i64 0, .int .i64 79, .nilsl, .str [105,110,116], .str [], .int .i64 1, .int .i64 83, .nilsl],
  .cells [.str [45,62], .str [], .int .i64 0, .int .i64 63, .nilsl, .sl 15 0 2 1 1 true, .sl 16 0 8 2 2 true, .bool false, .str [45], .str [], .int .i64 0, .int .i64 81, .nilsl, .sl 17 0 2 1 1 true, .sl 18 0 8 2 2 true, .bool true],
  .cells [.ptr 19 0, .ptr 20 0],
  .cells [.str [118,97,114], .str [120], .int .i64 0, .int .i64 67, .nilsl],
  .cells [.str [99], .bool false],
  .cells [.str [105,110,116], .str [], .int .i64 100, .int .i64 59, .nilsl, .sl 15 0 2 1 1 true, .nilsl, .bool true, .str [119,104,101,110], .str [99], .int .i64 1, .int .i64 69, .nilsl, .sl 15 0 2 1 1 true, .sl 21 0 8 1 1 true, .bool false],
  .cells [.str [99], .bool true],
  .cells [.str [105,110,116], .str [], .int .i64 0, .int .i64 79, .nilsl, .sl 17 0 2 1 1 true, .nilsl, .bool true, .str [105,110,116], .str [], .int .i64 1, .int .i64 83, .nilsl, .sl 17 0 2 1 1 true, .nilsl, .bool true],
  .cells [.str [45,62], .str [], .int .i64 0, .int .i64 63, .nilsl, .sl 15 0 2 1 1 true, .sl 16 0 8 2 2 true, .bool false, .sl 22 0 1 2 2 true, .nilptr, .bool true, .int .i64 p5, .int .i64 p6],
  .cells [.str [45], .str [], .int .i64 0, .int .i64 81, .nilsl, .sl 17 0 2 1 1 true, .sl 18 0 8 2 2 true, .bool true, .sl 23 0 1 2 2 true, .nilptr, .bool false, .int .i64 p7, .int .i64 p8],
  .cells [.str [118,97,114], .str [120], .int .i64 0, .int .i64 67, .nilsl, .nilsl, .nilsl, .bool false],
  .cells [.ptr 24 0, .ptr 25 0],
  .cells [.ptr 26 0, .ptr 27 0],
  .cells [.str [105,110,116], .str [], .int .i64 100, .int .i64 59, .nilsl, .sl 15 0 2 1 1 true, .nilsl, .bool true, .nilsl, .nilptr, .bool false, .int .i64 p9, .int .i64 p10],
  .cells [.str [119,104,101,110], .str [99], .int .i64 1, .int .i64 69, .nilsl, .sl 15 0 2 1 1 true, .sl 21 0 8 1 1 true, .bool false, .sl 28 0 1 1 1 true, .nilptr, .bool false, .int .i64 p11, .int .i64 p12],
  .cells [.str [105,110,116], .str [], .int .i64 0, .int .i64 79, .nilsl, .sl 17 0 2 1 1 true, .nilsl, .bool true, .nilsl, .nilptr, .bool false, .int .i64 p13, .int .i64 p14],
  .cells [.str [105,110,116], .str [], .int .i64 1, .int .i64 83, .nilsl, .sl 17 0 2 1 1 true, .nilsl, .bool true, .nilsl, .nilptr, .bool false, .int .i64 p15, .int .i64 p16],
  .cells [.ptr 29 0],
  .cells [.str [118,97,114], .str [120], .int .i64 0, .int .i64 67, .nilsl, .nilsl, .nilsl, .bool false, .nilsl, .nilptr, .bool false, .int .i64 p17, .int .i64 p18]]
def fiB : List AObj := fiG0 0 0 0 0 0 0 0 0 0 0 0 0 0 0 0 0
def fiperm : List Nat := [35, 3, 5, 6, 8, 107, 33, 34, 12, 203, 16, 28, 185, 238, 22, 145, 148, 200, 179, 206, 226, 140, 221, 236, 209, 214, 229, 234, 219, 217]
theorem fibegun (H : AHeap) : Does Tryz.prog (Gof tab) 23 [finodes] H fun r h => ∃ ρ : Nat → Nat, IsPart (AHeap.ofList fiB) ρ h ∧ (∀ i, i < fiB.length → H.next ≤ ρ i) ∧ r = .ptr (ρ 0) 0 ∧ H.next ≤ h.next ∧ ∀ j, j < H.next → h.get j = H.get j :=
  fresh_does (fuel := 100000) (n := 300) nmixed nplain knownW_good ngof (perm := fiperm) (by kernel_rfl) rfl (by decide) (fun Q => by kernel_rfl) H

theorem fiok_0 (p0 p1 p2 p3 p4 p5 p6 p7 p8 p9 p10 p11 p12 p13 p14 p15 : Int) : heapOk 30 (fiG0 p0 p1 p2 p3 p4 p5 p6 p7 p8 p9 p10 p11 p12 p13 p14 p15) = true := by kernel_rfl
theorem filen_0 (p0 p1 p2 p3 p4 p5 p6 p7 p8 p9 p10 p11 p12 p13 p14 p15 : Int) : (fiG0 p0 p1 p2 p3 p4 p5 p6 p7 p8 p9 p10 p11 p12 p13 p14 p15).length = 30 := rfl
theorem fiok_1 (p0 p1 p2 p3 p4 p5 p6 p7 p8 p9 p10 p11 p12 p13 p14 p15 p16 p17 p18 : Int) : heapOk 30 (fiG1 p0 p1 p2 p3 p4 p5 p6 p7 p8 p9 p10 p11 p12 p13 p14 p15 p16 p17 p18) = true := by kernel_rfl
theorem filen_1 (p0 p1 p2 p3 p4 p5 p6 p7 p8 p9 p10 p11 p12 p13 p14 p15 p16 p17 p18 : Int) : (fiG1 p0 p1 p2 p3 p4 p5 p6 p7 p8 p9 p10 p11 p12 p13 p14 p15 p16 p17 p18).length = 30 := rfl
theorem fiok_2 (p0 p1 p2 p3 p4 p5 p6 p7 p8 p9 p10 p11 p12 p13 p14 p15 p16 p17 p18 : Int) : heapOk 30 (fiG2 p0 p1 p2 p3 p4 p5 p6 p7 p8 p9 p10 p11 p12 p13 p14 p15 p16 p17 p18) = true := by kernel_rfl
theorem filen_2 (p0 p1 p2 p3 p4 p5 p6 p7 p8 p9 p10 p11 p12 p13 p14 p15 p16 p17 p18 : Int) : (fiG2 p0 p1 p2 p3 p4 p5 p6 p7 p8 p9 p10 p11 p12 p13 p14 p15 p16 p17 p18).length = 30 := rfl
theorem fifits_0i (x1 : Int) (H : AHeap) : Does Tryz.prog (Gof tab) 21 [fiins, .vsl [.int .i64 0, .int .i64 x1] 2] H fun r h => r = .bool true ∧ h = H :=
  sym_does (fuel := 100000) (n := 300) nmixed nplain knownW_good ngof (by kernel_rfl) (fun Q => by kernel_rfl) (fun _ => rfl) H

theorem fitick_0_0i (p0 p1 p2 p3 p4 p5 p6 p7 p8 p9 p10 p11 p12 p13 p14 p15 : Int) (x1 : Int) : Does Tryz.prog (Gof tab) 24 [.ptr 0 0, .vsl [.int .i64 0, .int .i64 x1] 2] (AHeap.ofList (fiG0 p0 p1 p2 p3 p4 p5 p6 p7 p8 p9 p10 p11 p12 p13 p14 p15)) fun r h => r = .vsl [.int .i64 (-1)] 1 ∧ h = AHeap.ofList (fiG1 (0) (x1) ((-1)) (p0) (p1) (p2) (p3) (p4) (p5) (p6) (p7) (p8) (p9) (p10) (p11) (p12) (p13) (p14) (p15)) :=
  tick_does (fuel := 100000) (n := 300) nmixed nplain knownW_good (by kernel_rfl) (by kernel_rfl) (fun Q => by kernel_rfl)

theorem fifits_1i (x1 : Int) (H : AHeap) : Does Tryz.prog (Gof tab) 21 [fiins, .vsl [.int .i64 1, .int .i64 x1] 2] H fun r h => r = .bool true ∧ h = H :=
  sym_does (fuel := 100000) (n := 300) nmixed nplain knownW_good ngof (by kernel_rfl) (fun Q => by kernel_rfl) (fun _ => rfl) H

theorem fitick_0_1i (p0 p1 p2 p3 p4 p5 p6 p7 p8 p9 p10 p11 p12 p13 p14 p15 : Int) (x1 : Int) : Does Tryz.prog (Gof tab) 24 [.ptr 0 0, .vsl [.int .i64 1, .int .i64 x1] 2] (AHeap.ofList (fiG0 p0 p1 p2 p3 p4 p5 p6 p7 p8 p9 p10 p11 p12 p13 p14 p15)) fun r h => r = .vsl [.int .i64 100] 1 ∧ h = AHeap.ofList (fiG2 (1) (x1) (100) (p0) (p1) (p2) (p3) (p4) (p5) (p6) (p7) (p8) (p9) (p10) (p11) (p12) (p13) (p14) (p15)) :=
  tick_does (fuel := 100000) (n := 300) nmixed nplain knownW_good (by kernel_rfl) (by kernel_rfl) (fun Q => by kernel_rfl)

theorem fitick_1_0i (p0 p1 p2 p3 p4 p5 p6 p7 p8 p9 p10 p11 p12 p13 p14 p15 p16 p17 p18 : Int) (x1 : Int) : Does Tryz.prog (Gof tab) 24 [.ptr 0 0, .vsl [.int .i64 0, .int .i64 x1] 2] (AHeap.ofList (fiG1 p0 p1 p2 p3 p4 p5 p6 p7 p8 p9 p10 p11 p12 p13 p14 p15 p16 p17 p18)) fun r h => r = .vsl [.int .i64 (-1)] 1 ∧ h = AHeap.ofList (fiG1 (0) (x1) ((-1)) (p3) (p4) (p5) (p6) (p7) (p8) (p9) (p10) (p11) (p12) (p13) (p14) (p15) (p16) (p17) (p18)) :=
  tick_does (fuel := 100000) (n := 300) nmixed nplain knownW_good (by kernel_rfl) (by kernel_rfl) (fun Q => by kernel_rfl)

theorem fitick_1_1i (p0 p1 p2 p3 p4 p5 p6 p7 p8 p9 p10 p11 p12 p13 p14 p15 p16 p17 p18 : Int) (x1 : Int) : Does Tryz.prog (Gof tab) 24 [.ptr 0 0, .vsl [.int .i64 1, .int .i64 x1] 2] (AHeap.ofList (fiG1 p0 p1 p2 p3 p4 p5 p6 p7 p8 p9 p10 p11 p12 p13 p14 p15 p16 p17 p18)) fun r h => r = .vsl [.int .i64 100] 1 ∧ h = AHeap.ofList (fiG2 (1) (x1) (100) (p3) (p4) (p5) (p6) (p7) (p8) (p9) (p10) (p11) (p12) (p13) (p14) (p15) (p16) (p17) (p18)) :=
  tick_does (fuel := 100000) (n := 300) nmixed nplain knownW_good (by kernel_rfl) (by kernel_rfl) (fun Q => by kernel_rfl)

theorem fitick_2_0i (p0 p1 p2 p3 p4 p5 p6 p7 p8 p9 p10 p11 p12 p13 p14 p15 p16 p17 p18 : Int) (x1 : Int) : Does Tryz.prog (Gof tab) 24 [.ptr 0 0, .vsl [.int .i64 0, .int .i64 x1] 2] (AHeap.ofList (fiG2 p0 p1 p2 p3 p4 p5 p6 p7 p8 p9 p10 p11 p12 p13 p14 p15 p16 p17 p18)) fun r h => r = .vsl [.int .i64 (-1)] 1 ∧ h = AHeap.ofList (fiG2 (0) (x1) ((-1)) (p3) (p4) (p5) (p6) (p7) (p8) (p9) (p10) (p11) (p12) (p13) (p14) (p15) (p16) (p17) (p18)) :=
  tick_does (fuel := 100000) (n := 300) nmixed nplain knownW_good (by kernel_rfl) (by kernel_rfl) (fun Q => by kernel_rfl)

theorem fitick_2_1i (p0 p1 p2 p3 p4 p5 p6 p7 p8 p9 p10 p11 p12 p13 p14 p15 p16 p17 p18 : Int) (x1 : Int) : Does Tryz.prog (Gof tab) 24 [.ptr 0 0, .vsl [.int .i64 1, .int .i64 x1] 2] (AHeap.ofList (fiG2 p0 p1 p2 p3 p4 p5 p6 p7 p8 p9 p10 p11 p12 p13 p14 p15 p16 p17 p18)) fun r h => r = .vsl [.int .i64 (x1)] 1 ∧ h = AHeap.ofList (fiG2 (1) (x1) (x1) (p3) (p4) (p5) (p6) (p7) (p8) (p9) (p10) (p11) (p12) (p13) (p14) (p15) (p16) (p17) (p18)) :=
  tick_does (fuel := 100000) (n := 300) nmixed nplain knownW_good (by kernel_rfl) (by kernel_rfl) (fun Q => by kernel_rfl)

end Go.Proofs.YtnnlgafmpobdhaaGreatDoor

/-
  A program's machine: what it tells, tick by tick: node f(c: bool; x: int) returns (y: int); let y = merge c (100 -> (x when c)) (0 - 1); tel
-/


namespace Go.Proofs.YtnnlgafmpobdhaaGreatDoor
open Go Go.Abs Go.RowKit
set_option maxRecDepth 100000
set_option linter.unusedVariables false
set_option linter.unusedSimpArgs false

/-- Has the name held, in so many ticks? -/
def fiW (c : Nat → Bool) : Nat → Bool
  | 0 => false
  | i + 1 => c i || fiW c i
def fiRow (c : Nat → Bool) (x : Nat → Int) (i : Nat) : AV := .vsl [.int .i64 (if c i then 1 else 0), .int .i64 (x i)] 2
def fiOut (c : Nat → Bool) (x : Nat → Int) (i : Nat) : AV := .vsl [.int .i64 (if c i then (if fiW c i then x i else 100) else -1)] 1
def fiI (c : Nat → Bool) (x : Nat → Int) (i : Nat) (l : List AObj) : Prop := (∃ p0 p1 p2 p3 p4 p5 p6 p7 p8 p9 p10 p11 p12 p13 p14 p15 : Int, l = fiG0 p0 p1 p2 p3 p4 p5 p6 p7 p8 p9 p10 p11 p12 p13 p14 p15 ∧ fiW c i = false) ∨ (∃ p0 p1 p2 p3 p4 p5 p6 p7 p8 p9 p10 p11 p12 p13 p14 p15 p16 p17 p18 : Int, l = fiG1 p0 p1 p2 p3 p4 p5 p6 p7 p8 p9 p10 p11 p12 p13 p14 p15 p16 p17 p18 ∧ fiW c i = false) ∨ (∃ p0 p1 p2 p3 p4 p5 p6 p7 p8 p9 p10 p11 p12 p13 p14 p15 p16 p17 p18 : Int, l = fiG2 p0 p1 p2 p3 p4 p5 p6 p7 p8 p9 p10 p11 p12 p13 p14 p15 p16 p17 p18 ∧ fiW c i = true)
theorem fimachine (c : Nat → Bool) (x : Nat → Int) (n : Nat) : ∃ g, MeanMachine (Gof tab) 30 g finodes ((List.range n).map (fiRow c x)) ((List.range n).map (fiOut c x)) := by
  refine machine_rel (B := fiB) (I := fiI c x) ngof (by decide) (.inl ⟨_, _, _, _, _, _, _, _, _, _, _, _, _, _, _, _, rfl, rfl⟩) ?_ ?_ ?_ (c0 := .str [102]) (ins := fiins) (c2 := .vsl [.str [121], .int .i64 2, .str [], .bool false, .int .i64 33] 1) (c3 := .vsl [] 0) (c4 := .vsl [.str [121], .str [109,101,114,103,101], .str [99], .int .i64 0, .int .i64 50, .vsl [.str [45,62], .str [], .int .i64 0, .int .i64 63, .vsl [.str [105,110,116], .str [], .int .i64 100, .int .i64 59, .nilsl, .str [119,104,101,110], .str [99], .int .i64 1, .int .i64 69, .vsl [.str [118,97,114], .str [120], .int .i64 0, .int .i64 67, .nilsl] 1] 2, .str [45], .str [], .int .i64 0, .int .i64 81, .vsl [.str [105,110,116], .str [], .int .i64 0, .int .i64 79, .nilsl, .str [105,110,116], .str [], .int .i64 1, .int .i64 83, .nilsl] 2] 2, .int .i64 46] 1) (c5 := .int .i64 0) rfl fimain_does ?_ (cn := 1) (by decide) ficount fibegun ?_
  · rintro i l (⟨p0, p1, p2, p3, p4, p5, p6, p7, p8, p9, p10, p11, p12, p13, p14, p15, rfl, hp⟩ | ⟨p0, p1, p2, p3, p4, p5, p6, p7, p8, p9, p10, p11, p12, p13, p14, p15, p16, p17, p18, rfl, hp⟩ | ⟨p0, p1, p2, p3, p4, p5, p6, p7, p8, p9, p10, p11, p12, p13, p14, p15, p16, p17, p18, rfl, hp⟩)
    · exact ⟨filen_0 _ _ _ _ _ _ _ _ _ _ _ _ _ _ _ _, fiok_0 _ _ _ _ _ _ _ _ _ _ _ _ _ _ _ _⟩
    · exact ⟨filen_1 _ _ _ _ _ _ _ _ _ _ _ _ _ _ _ _ _ _ _, fiok_1 _ _ _ _ _ _ _ _ _ _ _ _ _ _ _ _ _ _ _⟩
    · exact ⟨filen_2 _ _ _ _ _ _ _ _ _ _ _ _ _ _ _ _ _ _ _, fiok_2 _ _ _ _ _ _ _ _ _ _ _ _ _ _ _ _ _ _ _⟩
  · intro i _
    exact ⟨rfl, fun _ => rfl⟩
  · intro i _
    exact ⟨rfl, rfl, fun _ => rfl⟩
  · intro i _ H
    by_cases hc : c i = true
    · rw [show fiRow c x i = .vsl [.int .i64 1, .int .i64 (x i)] 2 by simp [fiRow, hc]]
      exact fifits_1i (x i) H
    · rw [show fiRow c x i = .vsl [.int .i64 0, .int .i64 (x i)] 2 by simp [fiRow, hc]]
      exact fifits_0i (x i) H
  · rintro i l hin (⟨p0, p1, p2, p3, p4, p5, p6, p7, p8, p9, p10, p11, p12, p13, p14, p15, rfl, hp⟩ | ⟨p0, p1, p2, p3, p4, p5, p6, p7, p8, p9, p10, p11, p12, p13, p14, p15, p16, p17, p18, rfl, hp⟩ | ⟨p0, p1, p2, p3, p4, p5, p6, p7, p8, p9, p10, p11, p12, p13, p14, p15, p16, p17, p18, rfl, hp⟩)
    · by_cases hc : c i = true
      · rw [show fiRow c x i = .vsl [.int .i64 1, .int .i64 (x i)] 2 by simp [fiRow, hc]]
        refine ⟨_, .inr (.inr (⟨_, _, _, _, _, _, _, _, _, _, _, _, _, _, _, _, _, _, _, rfl, ?_⟩)), (fitick_0_1i _ _ _ _ _ _ _ _ _ _ _ _ _ _ _ _ (x i)).mono fun r h ⟨e1, e2⟩ => ⟨e1.trans ?_, e2⟩⟩
        · simp [fiW, hc, hp]
        · simp [fiOut, hc, hp]
      · rw [show fiRow c x i = .vsl [.int .i64 0, .int .i64 (x i)] 2 by simp [fiRow, hc]]
        refine ⟨_, .inr (.inl ⟨_, _, _, _, _, _, _, _, _, _, _, _, _, _, _, _, _, _, _, rfl, ?_⟩), (fitick_0_0i _ _ _ _ _ _ _ _ _ _ _ _ _ _ _ _ (x i)).mono fun r h ⟨e1, e2⟩ => ⟨e1.trans ?_, e2⟩⟩
        · simp [fiW, hc, hp]
        · simp [fiOut, hc, hp]
    · by_cases hc : c i = true
      · rw [show fiRow c x i = .vsl [.int .i64 1, .int .i64 (x i)] 2 by simp [fiRow, hc]]
        refine ⟨_, .inr (.inr (⟨_, _, _, _, _, _, _, _, _, _, _, _, _, _, _, _, _, _, _, rfl, ?_⟩)), (fitick_1_1i _ _ _ _ _ _ _ _ _ _ _ _ _ _ _ _ _ _ _ (x i)).mono fun r h ⟨e1, e2⟩ => ⟨e1.trans ?_, e2⟩⟩
        · simp [fiW, hc, hp]
        · simp [fiOut, hc, hp]
      · rw [show fiRow c x i = .vsl [.int .i64 0, .int .i64 (x i)] 2 by simp [fiRow, hc]]
        refine ⟨_, .inr (.inl ⟨_, _, _, _, _, _, _, _, _, _, _, _, _, _, _, _, _, _, _, rfl, ?_⟩), (fitick_1_0i _ _ _ _ _ _ _ _ _ _ _ _ _ _ _ _ _ _ _ (x i)).mono fun r h ⟨e1, e2⟩ => ⟨e1.trans ?_, e2⟩⟩
        · simp [fiW, hc, hp]
        · simp [fiOut, hc, hp]
    · by_cases hc : c i = true
      · rw [show fiRow c x i = .vsl [.int .i64 1, .int .i64 (x i)] 2 by simp [fiRow, hc]]
        refine ⟨_, .inr (.inr (⟨_, _, _, _, _, _, _, _, _, _, _, _, _, _, _, _, _, _, _, rfl, ?_⟩)), (fitick_2_1i _ _ _ _ _ _ _ _ _ _ _ _ _ _ _ _ _ _ _ (x i)).mono fun r h ⟨e1, e2⟩ => ⟨e1.trans ?_, e2⟩⟩
        · simp [fiW, hc, hp]
        · simp [fiOut, hc, hp]
      · rw [show fiRow c x i = .vsl [.int .i64 0, .int .i64 (x i)] 2 by simp [fiRow, hc]]
        refine ⟨_, .inr (.inr (⟨_, _, _, _, _, _, _, _, _, _, _, _, _, _, _, _, _, _, _, rfl, ?_⟩)), (fitick_2_0i _ _ _ _ _ _ _ _ _ _ _ _ _ _ _ _ _ _ _ (x i)).mono fun r h ⟨e1, e2⟩ => ⟨e1.trans ?_, e2⟩⟩
        · simp [fiW, hc, hp]
        · simp [fiOut, hc, hp]
end Go.Proofs.YtnnlgafmpobdhaaGreatDoor

/-
  MeanFirst: an arrow tells its first kid once, at its clock's first tick.
-/


namespace Go.Proofs.YtnnlgafmpobdhaaGreatDoor
open Go Go.Abs Go.Lex Go.RowKit
set_option maxRecDepth 100000
set_option linter.unusedVariables false
set_option linter.unusedSimpArgs false

def fiIn (c : Nat → Bool) (x : Nat → Int) (k : Nat) : List Int := [if c k then 1 else 0, x k]
def fiWant (c : Nat → Bool) (x : Nat → Int) (k : Nat) : List Int := [if c k then (if fiW c k then x k else 100) else -1]

set_option maxHeartbeats 4000000 in
theorem filaw_run (c : Nat → Bool) (x : Nat → Int) (n m : Nat) (a0 a1 : AV) (h0 : Arr (fun k => .bool (c k)) n a0) (h1 : Arr (fun k => .int .i64 (x k)) m a1) (H : AHeap) :
    Does Tryz.prog (Gof tab) 9 [a0, a1] H fun r _ => r = .bool true := by
  refine Does.wf Tryz.call9 fun hw _ => ?_
  have e0 := alen_bools h0
  have e1 := alen_ints h1
  refine does_f Tryz.call9 Tryz.func9 rfl (by simp [Tryz.f9]) ?_
  simp
  refine does_use (awake12 _) ?_
  rintro _ HX ⟨rfl, hHX⟩
  rw [hHX]
  clear hHX HX
  simp [e0, e1, -alen]
  by_cases hn : 40 < n
  · have : (40 : Int) < n := by omega
    simp [this, e0, e1, -alen]
  have hn' : ¬ ((40 : Int) < n) := by omega
  by_cases hm : m = n
  case neg =>
    have : ((m : Int) != n) = true := by simp; omega
    simp [hn', this, e0, e1, -alen]
  subst hm
  simp [hn', e0, e1, -alen]
  refine aws_loops (fun k T' H' => ∃ i : Nat, i + k = m ∧ T' 0 = a0 ∧ T' 1 = a1 ∧ T' 8 = .int .i64 i ∧ T' 7 = .bool (fiW c i) ∧ Rows2 H H' (T' 5) (T' 6) (fiIn c x) 2 (fiWant c x) 1 i) m ?_ ?_
  · exact ⟨0, by simp, by simp, by simp, by simp, by simp [fiW], by simpa using Rows2.init H _ _ _ _⟩
  rintro k T H1 ⟨i, hik, t0, t1, t8, t7, hR⟩ hw1 _
  by_cases hi : i < m
  · have hii : (i : Int) < m := by omega
    have p0 := arr_pos h0 (by omega)
    have p1 := arr_pos h1 (by omega)
    have q0 := at_range (f := fun k => AV.bool (c k)) hi
    have q1 := at_range (f := fun k => AV.int .i64 (x k)) hi
    rw [p0] at t0 e0
    rw [p1] at t1 e1
    refine aws_f ?_
    have wr : IntKind.i64.wrap ((i : Int) + 1) = ((i + 1 : Nat) : Int) := by rw [IntWalk.i64_in _ (by omega)]; omega
    have wr1 : IntKind.i64.wrap 1 = 1 := by decide
    by_cases hi0 : i = 0
    · subst hi0
      obtain ⟨t5, t6⟩ := hR.zero
      have hcs : (c 0 = false) ∨ (c 0 = true ∧ fiW c 0 = false) ∨ (c 0 = true ∧ fiW c 0 = true) := by cases c 0 <;> cases fiW c 0 <;> simp
      rcases hcs with hc | hc | hc
      · simp [t0, t1, t8, t7, t5, t6, e0, e1, hi, hii, q0, q1, hc, -alen]
        exact ⟨k - 1, by omega, 1, by omega, p0.symm, p1.symm, wr, by simp [fiW, hc], hR.first hw (by simp [ri, fiIn, hc]) (by simp [ri, fiWant, fiW, hc])⟩
      · simp [t0, t1, t8, t7, t5, t6, e0, e1, hi, hii, q0, q1, hc.1, hc.2, -alen]
        refine aw_still mixedOrders (by kernel_rfl) ?_
        intro es hes
        simp [t0, t1, t8, t7, t5, t6, e0, e1, hi, hii, q0, q1, hc.1, hc.2, -alen]
        subst hes
        exact ⟨by kernel_rfl, k - 1, by omega, 1, by omega, p0.symm, p1.symm, wr, by simp [fiW, hc.1, hc.2], hR.first hw (by simp [ri, fiIn, hc.1, hc.2]) (by simp [ri, fiWant, fiW, hc.1, hc.2])⟩
      · simp [fiW] at hc
    · obtain ⟨b1, b2, ρ1, ρ2, t5, t6, hg1, hg2, hb1l, hb2l, n8, hR'⟩ := hR.more (by omega) hw
      have n1 : b1 ≠ H1.next := by omega
      have n2 : b1 ≠ H1.next + 1 := by omega
      have n3 : b2 ≠ H1.next := by omega
      have n4 : b2 ≠ H1.next + 1 := by omega
      have n5 : b2 ≠ H1.next + 1 + 1 := by omega
      have n6 : b2 ≠ H1.next + 1 + 1 + 1 := by omega
      have n7 : b2 ≠ H1.next + 1 + 1 + 1 + 1 := by omega
      have hgrow : ¬ (i + 1 ≤ i) := by omega
      have g3 : (i + 1) * 24 ≤ 140737488355328 := by omega
      have g4 : i ≤ 4611686018427387903 := by omega
      have k1 : List.take i (List.map (fun k => AV.sl (ρ1 k) 0 1 2 2 false) (List.range i)) = List.map (fun k => AV.sl (ρ1 k) 0 1 2 2 false) (List.range i) := List.take_of_length_le (by simp)
      have k2 : List.take i (List.map (fun k => AV.sl (ρ2 k) 0 1 1 1 false) (List.range i)) = List.map (fun k => AV.sl (ρ2 k) 0 1 1 1 false) (List.range i) := List.take_of_length_le (by simp)
      have hcs : (c i = false) ∨ (c i = true ∧ fiW c i = false) ∨ (c i = true ∧ fiW c i = true) := by cases c i <;> cases fiW c i <;> simp
      rcases hcs with hc | hc | hc
      · simp [t0, t1, t8, t7, t5, t6, e0, e1, hi, hii, q0, q1, hc, hg1, hg2, n1, n2, n3, n4, n5, n6, n7, n8, hgrow, g3, g4, k1, k2, -alen, -List.map_take]
        exact ⟨k - 1, by omega, i + 1, by omega, p0.symm, p1.symm, wr, by simp [fiW, hc], hR' _ _ (by simp [ri, fiIn, hc]) (by simp [ri, fiWant, fiW, hc])⟩
      · simp [t0, t1, t8, t7, t5, t6, e0, e1, hi, hii, q0, q1, hc.1, hc.2, hg1, hg2, n1, n2, n3, n4, n5, n6, n7, n8, hgrow, g3, g4, k1, k2, -alen, -List.map_take]
        refine aw_still mixedOrders (by kernel_rfl) ?_
        intro es hes
        simp [t0, t1, t8, t7, t5, t6, e0, e1, hi, hii, q0, q1, hc.1, hc.2, hg1, hg2, n1, n2, n3, n4, n5, n6, n7, n8, hgrow, g3, g4, k1, k2, -alen, -List.map_take]
        subst hes
        exact ⟨by kernel_rfl, k - 1, by omega, i + 1, by omega, p0.symm, p1.symm, wr, by simp [fiW, hc.1, hc.2], hR' _ _ (by simp [ri, fiIn, hc.1, hc.2]) (by simp [ri, fiWant, fiW, hc.1, hc.2])⟩
      · simp [t0, t1, t8, t7, t5, t6, e0, e1, hi, hii, q0, q1, hc.1, hc.2, hg1, hg2, n1, n2, n3, n4, n5, n6, n7, n8, hgrow, g3, g4, k1, k2, -alen, -List.map_take]
        refine aw_still mixedOrders (by kernel_rfl) ?_
        intro es hes
        simp [t0, t1, t8, t7, t5, t6, e0, e1, hi, hii, q0, q1, hc.1, hc.2, hg1, hg2, n1, n2, n3, n4, n5, n6, n7, n8, hgrow, g3, g4, k1, k2, -alen, -List.map_take]
        subst hes
        exact ⟨by kernel_rfl, k - 1, by omega, i + 1, by omega, p0.symm, p1.symm, wr, by simp [fiW, hc.1, hc.2], hR' _ _ (by simp [ri, fiIn, hc.1, hc.2]) (by simp [ri, fiWant, fiW, hc.1, hc.2])⟩
  · obtain rfl : i = m := by omega
    refine aws_two 5 6 hw hR (fun _ => rfl) (fun _ => rfl) fun T2 f5 f6 ft => aws_f ?_
    have u0 : T2 0 = a0 := (ft 0 (by decide) (by decide)).trans t0
    have u8 : T2 8 = .int .i64 (i : Nat) := (ft 8 (by decide) (by decide)).trans t8
    simp [u0, u8, f5, f6, e0, e1, -alen]
    obtain ⟨g, M⟩ := fimachine c x i
    have ho := fun H => all_true (G := Gof tab) ((List.range i).map (fiWant c x)) (by simp; omega) (fun l hl => by
      obtain ⟨k, _, rfl⟩ := List.mem_map.1 hl
      exact Nat.lt_of_le_of_lt (Nat.le_of_eq rfl : (fiWant c x k).length ≤ 1) (by decide)) H
    rw [← rows_outs (out := fiOut c x) (fun _ => rfl)] at ho
    have hsc : (rowsV ((List.range i).map (fiOut c x))).scalar = true := by unfold rowsV; split <;> rfl
    refine does_use (m_text M (by decide) (by simp; omega) ficheck _) ?_
    rintro _ HX ⟨rfl, hHX⟩
    rw [hHX]
    clear hHX HX
    simp [u0, u8, f5, f6, e0, e1, hsc, -alen]
    refine does_use (ho _) ?_
    rintro _ HX ⟨rfl, hHX⟩
    rw [hHX]
    clear hHX HX
    simp

theorem filaw_any (H : AHeap) (a0 : AV) (a1 : AV) (s0 : Shp Tryz.prog 8 36 [a0]) (s1 : Shp Tryz.prog 8 30 [a1]) : Does Tryz.prog (Gof tab) 9 [a0, a1] H fun r _ => r = .bool true := by
  obtain ⟨n0, c0, _, h0⟩ := shp_bools Tryz.underlying36 Tryz.underlying4 s0
  obtain ⟨n1, c1, _, _, h1⟩ := shp_ints Tryz.underlying30 Tryz.underlying2 s1
  exact filaw_run c0 c1 n0 n1 a0 a1 h0 h1 H
end Go.Proofs.YtnnlgafmpobdhaaGreatDoor
