/-
  Own library of this claim, part 5: texts one behind the other (MnBe, MnBeM, MnBeL).
-/
import Derived.Test.YtnnlgafmpobdhaaGreatDoorLibD

/-
  A program's machine, known by the evaluator: node n(z: bool) returns (y: int); let y = 1 + (0 fby y); tel node f(c: bool) returns (y: int); let y = merge c (n(c) when c) (0 - 1); tel
-/

namespace Go.Proofs.YtnnlgafmpobdhaaGreatDoor
open Go Go.Abs Go.RowKit
set_option maxRecDepth 100000
set_option linter.unusedVariables false

def betext : List UInt8 := [110,111,100,101,32,110,40,122,58,32,98,111,111,108,41,32,114,101,116,117,114,110,115,32,40,121,58,32,105,110,116,41,59,32,108,101,116,32,121,32,61,32,49,32,43,32,40,48,32,102,98,121,32,121,41,59,32,116,101,108,32,110,111,100,101,32,102,40,99,58,32,98,111,111,108,41,32,114,101,116,117,114,110,115,32,40,121,58,32,105,110,116,41,59,32,108,101,116,32,121,32,61,32,109,101,114,103,101,32,99,32,40,110,40,99,41,32,119,104,101,110,32,99,41,32,40,48,32,45,32,49,41,59,32,116,101,108]
def becells : List AV := [.str [110], .vsl [.str [122], .int .i64 1, .str [], .bool false, .int .i64 7] 1, .vsl [.str [121], .int .i64 2, .str [], .bool false, .int .i64 25] 1, .nilsl, .vsl [.str [121], .str [43], .str [], .int .i64 0, .int .i64 44, .vsl [.str [105,110,116], .str [], .int .i64 1, .int .i64 42, .nilsl, .str [102,98,121], .str [], .int .i64 0, .int .i64 49, .vsl [.str [105,110,116], .str [], .int .i64 0, .int .i64 47, .nilsl, .str [118,97,114], .str [121], .int .i64 0, .int .i64 53, .nilsl] 2] 2, .int .i64 38] 1, .int .i64 0, .str [102], .vsl [.str [99], .int .i64 1, .str [], .bool false, .int .i64 68] 1, .vsl [.str [121], .int .i64 2, .str [], .bool false, .int .i64 86] 1, .nilsl, .vsl [.str [121], .str [109,101,114,103,101], .str [99], .int .i64 0, .int .i64 103, .vsl [.str [119,104,101,110], .str [99], .int .i64 1, .int .i64 117, .vsl [.str [99,97,108,108], .str [110], .int .i64 0, .int .i64 112, .vsl [.str [118,97,114], .str [99], .int .i64 0, .int .i64 114, .nilsl] 1] 1, .str [45], .str [], .int .i64 0, .int .i64 128, .vsl [.str [105,110,116], .str [], .int .i64 0, .int .i64 126, .nilsl, .str [105,110,116], .str [], .int .i64 1, .int .i64 130, .nilsl] 2] 2, .int .i64 99] 1, .int .i64 61]
def benodes : AV := .vsl becells 2
def beok : AV := .agg [.int .i64 0, .int .i64 0]
def belit : AV := .tuple [benodes, beok]
def beins : AV := .vsl [.str [99], .int .i64 1, .str [], .bool false, .int .i64 68] 1
def bemain : AV := .agg [.str [102], beins, .vsl [.str [121], .int .i64 2, .str [], .bool false, .int .i64 86] 1, .vsl [] 0, .vsl [.str [121], .str [109,101,114,103,101], .str [99], .int .i64 0, .int .i64 103, .vsl [.str [119,104,101,110], .str [99], .int .i64 1, .int .i64 117, .vsl [.str [99,97,108,108], .str [110], .int .i64 0, .int .i64 112, .vsl [.str [118,97,114], .str [99], .int .i64 0, .int .i64 114, .nilsl] 1] 1, .str [45], .str [], .int .i64 0, .int .i64 128, .vsl [.str [105,110,116], .str [], .int .i64 0, .int .i64 126, .nilsl, .str [105,110,116], .str [], .int .i64 1, .int .i64 130, .nilsl] 2] 2, .int .i64 99] 1, .int .i64 61]
theorem beparse_run : fcall knownW Tryz.prog (Gof tab) 100000 300 18 [.str betext] FH.empty (litK belit) = true := by kernel_rfl
theorem beparse (H : AHeap) : Does Tryz.prog (Gof tab) 18 [.str betext] H fun r h => r = belit ∧ h = H :=
  lit_does nmixed nplain knownW_good ngof (by kernel_rfl) (by kernel_rfl) beparse_run H
theorem betree_run : fcall knownW Tryz.prog (Gof tab) 100000 300 19 [benodes] FH.empty (litK beok) = true := by kernel_rfl
theorem betree (H : AHeap) : Does Tryz.prog (Gof tab) 19 [benodes] H fun r h => r = beok ∧ h = H :=
  lit_does nmixed nplain knownW_good ngof (by kernel_rfl) (by kernel_rfl) betree_run H
noncomputable def beknown : Ov := ovAdd 18 (litOv [([.str betext], belit)]) (ovAdd 19 (litOv [([benodes], beok)]) knownW)
theorem beknown_good : OvGoodK Tryz.prog (Gof tab) beknown := ovAdd_good (litOv_good fun e he H => by
  simp only [List.mem_cons, List.not_mem_nil, or_false] at he
  subst he
  exact beparse H) (ovAdd_good (litOv_good fun e he H => by
  simp only [List.mem_cons, List.not_mem_nil, or_false] at he
  subst he
  exact betree H) knownW_good)
theorem becheck_run : fcall beknown Tryz.prog (Gof tab) 100000 300 15 [.str betext] FH.empty (litK belit) = true := by kernel_rfl
theorem becheck (H : AHeap) : Does Tryz.prog (Gof tab) 15 [.str betext] H fun r h => r = belit ∧ h = H :=
  lit_does nmixed nplain beknown_good ngof (by kernel_rfl) (by kernel_rfl) becheck_run H
theorem bemain_run : fcall knownW Tryz.prog (Gof tab) 100000 300 20 [benodes] FH.empty (litK bemain) = true := by kernel_rfl
theorem bemain_does (H : AHeap) : Does Tryz.prog (Gof tab) 20 [benodes] H fun r h => r = bemain ∧ h = H :=
  lit_does nmixed nplain knownW_good ngof (by kernel_rfl) (by kernel_rfl) bemain_run H
theorem becount_run : fcall knownW Tryz.prog (Gof tab) 100000 300 22 [benodes] FH.empty (litK (.int .i64 2)) = true := by kernel_rfl
theorem becount (H : AHeap) : Does Tryz.prog (Gof tab) 22 [benodes] H fun r h => r = .int .i64 2 ∧ h = H :=
  lit_does nmixed nplain knownW_good ngof (by kernel_rfl) (by kernel_rfl) becount_run H

def beG0 (p0 p1 p2 p3 p4 p5 p6 p7 p8 p9 p10 p11 p12 p13 p14 p15 p16 p17 p18 p19 p20 p21 p22 p23 : Int) : List AObj := [
  .cells [.str [102], .sl 1 0 5 1 1 true, .sl 2 0 5 1 1 true, .sl 3 0 5 0 0 false, .sl 4 0 7 1 1 true, .int .i64 61, .sl 5 0 1 1 1 true, .map 6, .map 7, .nilsl],
  .cells [.str [99], .int .i64 1, .str [], .bool false, .int .i64 68],
  .cells [.str [121], .int .i64 2, .str [], .bool false, .int .i64 86],
  .cells [],
  .cells [.str [121], .str [109,101,114,103,101], .str [99], .int .i64 0, .int .i64 103, .sl 8 0 5 2 2 true, .int .i64 99],
  .cells [.str [121]],
  .map [(.str [121], .ptr 9 0)],
  .map [],
  .cells [.str [119,104,101,110], .str [99], .int .i64 1, .int .i64 117, .sl 10 0 5 1 1 true, .str [45], .str [], .int .i64 0, .int .i64 128, .sl 11 0 5 2 2 true],
  .cells [.str [109,101,114,103,101], .str [99], .int .i64 0, .int .i64 103, .nilsl, .nilsl, .sl 12 0 8 2 2 true, .bool false, .sl 13 0 1 2 2 true, .nilptr, .bool false, .int .i64 p0, .int .i64 p1],
  .cells [.str [99,97,108,108], .str [110], .int .i64 0, .int .i64 112, .sl 14 0 5 1 1 true],
  .cells [.str [105,110,116], .str [], .int .i64 0, .int .i64 126, .nilsl, .str [105,110,116], .str [], .int .i64 1, .int .i64 130, .nilsl],
  .cells [.str [119,104,101,110], .str [99], .int .i64 1, .int .i64 117, .nilsl, .sl 15 0 2 1 1 true, .sl 16 0 8 1 1 true, .bool false, .str [45], .str [], .int .i64 0, .int .i64 128, .nilsl, .sl 17 0 2 1 1 true, .sl 18 0 8 2 2 true, .bool true],
  .cells [.ptr 19 0, .ptr 20 0],
  .cells [.str [118,97,114], .str [99], .int .i64 0, .int .i64 114, .nilsl],
  .cells [.str [99], .bool false],
  .cells [.str [99,97,108,108], .str [110], .int .i64 0, .int .i64 112, .nilsl, .nilsl, .sl 21 0 8 1 1 true, .bool false],
  .cells [.str [99], .bool true],
  .cells [.str [105,110,116], .str [], .int .i64 0, .int .i64 126, .nilsl, .sl 17 0 2 1 1 true, .nilsl, .bool true, .str [105,110,116], .str [], .int .i64 1, .int .i64 130, .nilsl, .sl 17 0 2 1 1 true, .nilsl, .bool true],
  .cells [.str [119,104,101,110], .str [99], .int .i64 1, .int .i64 117, .nilsl, .sl 15 0 2 1 1 true, .sl 16 0 8 1 1 true, .bool false, .sl 22 0 1 1 1 true, .nilptr, .bool false, .int .i64 p2, .int .i64 p3],
  .cells [.str [45], .str [], .int .i64 0, .int .i64 128, .nilsl, .sl 17 0 2 1 1 true, .sl 18 0 8 2 2 true, .bool true, .sl 23 0 1 2 2 true, .nilptr, .bool false, .int .i64 p4, .int .i64 p5],
  .cells [.str [118,97,114], .str [99], .int .i64 0, .int .i64 114, .nilsl, .nilsl, .nilsl, .bool false],
  .cells [.ptr 24 0],
  .cells [.ptr 25 0, .ptr 26 0],
  .cells [.str [99,97,108,108], .str [110], .int .i64 0, .int .i64 112, .nilsl, .nilsl, .sl 21 0 8 1 1 true, .bool false, .sl 27 0 1 1 1 true, .ptr 28 0, .bool false, .int .i64 p6, .int .i64 p7],
  .cells [.str [105,110,116], .str [], .int .i64 0, .int .i64 126, .nilsl, .sl 17 0 2 1 1 true, .nilsl, .bool true, .nilsl, .nilptr, .bool false, .int .i64 p8, .int .i64 p9],
  .cells [.str [105,110,116], .str [], .int .i64 1, .int .i64 130, .nilsl, .sl 17 0 2 1 1 true, .nilsl, .bool true, .nilsl, .nilptr, .bool false, .int .i64 p10, .int .i64 p11],
  .cells [.ptr 29 0],
  .cells [.str [110], .sl 30 0 5 1 1 true, .sl 31 0 5 1 1 true, .sl 32 0 5 0 0 false, .sl 33 0 7 1 1 true, .int .i64 0, .sl 34 0 1 1 1 true, .map 35, .map 36, .nilsl],
  .cells [.str [118,97,114], .str [99], .int .i64 0, .int .i64 114, .nilsl, .nilsl, .nilsl, .bool false, .nilsl, .nilptr, .bool false, .int .i64 p12, .int .i64 p13],
  .cells [.str [122], .int .i64 1, .str [], .bool false, .int .i64 7],
  .cells [.str [121], .int .i64 2, .str [], .bool false, .int .i64 25],
  .cells [],
  .cells [.str [121], .str [43], .str [], .int .i64 0, .int .i64 44, .sl 37 0 5 2 2 true, .int .i64 38],
  .cells [.str [121]],
  .map [(.str [121], .ptr 38 0)],
  .map [],
  .cells [.str [105,110,116], .str [], .int .i64 1, .int .i64 42, .nilsl, .str [102,98,121], .str [], .int .i64 0, .int .i64 49, .sl 39 0 5 2 2 true],
  .cells [.str [43], .str [], .int .i64 0, .int .i64 44, .nilsl, .nilsl, .sl 40 0 8 2 2 true, .bool false, .sl 41 0 1 2 2 true, .nilptr, .bool false, .int .i64 p14, .int .i64 p15],
  .cells [.str [105,110,116], .str [], .int .i64 0, .int .i64 47, .nilsl, .str [118,97,114], .str [121], .int .i64 0, .int .i64 53, .nilsl],
  .cells [.str [105,110,116], .str [], .int .i64 1, .int .i64 42, .nilsl, .nilsl, .nilsl, .bool true, .str [102,98,121], .str [], .int .i64 0, .int .i64 49, .nilsl, .nilsl, .sl 42 0 8 2 2 true, .bool false],
  .cells [.ptr 43 0, .ptr 44 0],
  .cells [.str [105,110,116], .str [], .int .i64 0, .int .i64 47, .nilsl, .nilsl, .nilsl, .bool true, .str [118,97,114], .str [121], .int .i64 0, .int .i64 53, .nilsl, .nilsl, .nilsl, .bool false],
  .cells [.str [105,110,116], .str [], .int .i64 1, .int .i64 42, .nilsl, .nilsl, .nilsl, .bool true, .nilsl, .nilptr, .bool false, .int .i64 p16, .int .i64 p17],
  .cells [.str [102,98,121], .str [], .int .i64 0, .int .i64 49, .nilsl, .nilsl, .sl 42 0 8 2 2 true, .bool false, .sl 45 0 1 2 2 true, .nilptr, .bool false, .int .i64 p18, .int .i64 p19],
  .cells [.ptr 46 0, .ptr 47 0],
  .cells [.str [105,110,116], .str [], .int .i64 0, .int .i64 47, .nilsl, .nilsl, .nilsl, .bool true, .nilsl, .nilptr, .bool false, .int .i64 p20, .int .i64 p21],
  .cells [.str [118,97,114], .str [121], .int .i64 0, .int .i64 53, .nilsl, .nilsl, .nilsl, .bool false, .nilsl, .nilptr, .bool false, .int .i64 p22, .int .i64 p23]]
def beG1 (p0 p1 p2 p3 p4 p5 p6 p7 p8 p9 p10 p11 p12 p13 p14 p15 p16 p17 p18 p19 p20 p21 p22 p23 p24 p25 p26 p27 : Int) : List AObj := [
  .cells [.str [102], .sl 1 0 5 1 1 true, .sl 2 0 5 1 1 true, .sl 3 0 5 0 0 false, .sl 4 0 7 1 1 true, .int .i64 61, .sl 5 0 1 1 1 true, .map 6, .map 7, .nilsl],
  .cells [.str [99], .int .i64 1, .str [], .bool false, .int .i64 68],
  .cells [.str [121], .int .i64 2, .str [], .bool false, .int .i64 86],
  .cells [],
  .cells [.str [121], .str [109,101,114,103,101], .str [99], .int .i64 0, .int .i64 103, .sl 8 0 5 2 2 true, .int .i64 99],
  .cells [.str [121]],
  .map [(.str [121], .ptr 9 0)],
  .map [(.str [99], .int .i64 p0), (.str [121], .int .i64 p1)],
  .cells [.str [119,104,101,110], .str [99], .int .i64 1, .int .i64 117, .sl 10 0 5 1 1 true, .str [45], .str [], .int .i64 0, .int .i64 128, .sl 11 0 5 2 2 true],
  .cells [.str [109,101,114,103,101], .str [99], .int .i64 0, .int .i64 103, .nilsl, .nilsl, .sl 12 0 8 2 2 true, .bool false, .sl 13 0 1 2 2 true, .nilptr, .bool false, .int .i64 p2, .int .i64 p3],
  .cells [.str [99,97,108,108], .str [110], .int .i64 0, .int .i64 112, .sl 14 0 5 1 1 true],
  .cells [.str [105,110,116], .str [], .int .i64 0, .int .i64 126, .nilsl, .str [105,110,116], .str [], .int .i64 1, .int .i64 130, .nilsl],
  .cells [.str [119,104,101,110], .str [99], .int .i64 1, .int .i64 117, .nilsl, .sl 15 0 2 1 1 true, .sl 16 0 8 1 1 true, .bool false, .str [45], .str [], .int .i64 0, .int .i64 128, .nilsl, .sl 17 0 2 1 1 true, .sl 18 0 8 2 2 true, .bool true],
  .cells [.ptr 19 0, .ptr 20 0],
  .cells [.str [118,97,114], .str [99], .int .i64 0, .int .i64 114, .nilsl],
  .cells [.str [99], .bool false],
  .cells [.str [99,97,108,108], .str [110], .int .i64 0, .int .i64 112, .nilsl, .nilsl, .sl 21 0 8 1 1 true, .bool false],
  .cells [.str [99], .bool true],
  .cells [.str [105,110,116], .str [], .int .i64 0, .int .i64 126, .nilsl, .sl 17 0 2 1 1 true, .nilsl, .bool true, .str [105,110,116], .str [], .int .i64 1, .int .i64 130, .nilsl, .sl 17 0 2 1 1 true, .nilsl, .bool true],
  .cells [.str [119,104,101,110], .str [99], .int .i64 1, .int .i64 117, .nilsl, .sl 15 0 2 1 1 true, .sl 16 0 8 1 1 true, .bool false, .sl 22 0 1 1 1 true, .nilptr, .bool false, .int .i64 p4, .int .i64 p5],
  .cells [.str [45], .str [], .int .i64 0, .int .i64 128, .nilsl, .sl 17 0 2 1 1 true, .sl 18 0 8 2 2 true, .bool true, .sl 23 0 1 2 2 true, .nilptr, .bool false, .int .i64 p6, .int .i64 p7],
  .cells [.str [118,97,114], .str [99], .int .i64 0, .int .i64 114, .nilsl, .nilsl, .nilsl, .bool false],
  .cells [.ptr 24 0],
  .cells [.ptr 25 0, .ptr 26 0],
  .cells [.str [99,97,108,108], .str [110], .int .i64 0, .int .i64 112, .nilsl, .nilsl, .sl 21 0 8 1 1 true, .bool false, .sl 27 0 1 1 1 true, .ptr 28 0, .bool false, .int .i64 p8, .int .i64 p9],
  .cells [.str [105,110,116], .str [], .int .i64 0, .int .i64 126, .nilsl, .sl 17 0 2 1 1 true, .nilsl, .bool true, .nilsl, .nilptr, .bool false, .int .i64 p10, .int .i64 p11],
  .cells [.str [105,110,116], .str [], .int .i64 1, .int .i64 130, .nilsl, .sl 17 0 2 1 1 true, .nilsl, .bool true, .nilsl, .nilptr, .bool false, .int .i64 p12, .int .i64 p13],
  .cells [.ptr 29 0],
  .cells [.str [110], .sl 30 0 5 1 1 true, .sl 31 0 5 1 1 true, .sl 32 0 5 0 0 false, .sl 33 0 7 1 1 true, .int .i64 0, .sl 34 0 1 1 1 true, .map 35, .map 36, .nilsl],
  .cells [.str [118,97,114], .str [99], .int .i64 0, .int .i64 114, .nilsl, .nilsl, .nilsl, .bool false, .nilsl, .nilptr, .bool false, .int .i64 p14, .int .i64 p15],
  .cells [.str [122], .int .i64 1, .str [], .bool false, .int .i64 7],
  .cells [.str [121], .int .i64 2, .str [], .bool false, .int .i64 25],
  .cells [],
  .cells [.str [121], .str [43], .str [], .int .i64 0, .int .i64 44, .sl 37 0 5 2 2 true, .int .i64 38],
  .cells [.str [121]],
  .map [(.str [121], .ptr 38 0)],
  .map [(.str [122], .int .i64 p16), (.str [121], .int .i64 p17)],
  .cells [.str [105,110,116], .str [], .int .i64 1, .int .i64 42, .nilsl, .str [102,98,121], .str [], .int .i64 0, .int .i64 49, .sl 39 0 5 2 2 true],
  .cells [.str [43], .str [], .int .i64 0, .int .i64 44, .nilsl, .nilsl, .sl 40 0 8 2 2 true, .bool false, .sl 41 0 1 2 2 true, .nilptr, .bool false, .int .i64 p18, .int .i64 p19],
  .cells [.str [105,110,116], .str [], .int .i64 0, .int .i64 47, .nilsl, .str [118,97,114], .str [121], .int .i64 0, .int .i64 53, .nilsl],
  .cells [.str [105,110,116], .str [], .int .i64 1, .int .i64 42, .nilsl, .nilsl, .nilsl, .bool true, .str [102,98,121], .str [], .int .i64 0, .int .i64 49, .nilsl, .nilsl, .sl 42 0 8 2 2 true, .bool false],
  .cells [.ptr 43 0, .ptr 44 0],
  .cells [.str [105,110,116], .str [], .int .i64 0, .int .i64 47, .nilsl, .nilsl, .nilsl, .bool true, .str [118,97,114], .str [121], .int .i64 0, .int .i64 53, .nilsl, .nilsl, .nilsl, .bool false],
  .cells [.str [105,110,116], .str [], .int .i64 1, .int .i64 42, .nilsl, .nilsl, .nilsl, .bool true, .nilsl, .nilptr, .bool false, .int .i64 p20, .int .i64 p21],
  .cells [.str [102,98,121], .str [], .int .i64 0, .int .i64 49, .nilsl, .nilsl, .sl 42 0 8 2 2 true, .bool false, .sl 45 0 1 2 2 true, .nilptr, .bool true, .int .i64 p22, .int .i64 p23],
  .cells [.ptr 46 0, .ptr 47 0],
  .cells [.str [105,110,116], .str [], .int .i64 0, .int .i64 47, .nilsl, .nilsl, .nilsl, .bool true, .nilsl, .nilptr, .bool false, .int .i64 p24, .int .i64 p25],
  .cells [.str [118,97,114], .str [121], .int .i64 0, .int .i64 53, .nilsl, .nilsl, .nilsl, .bool false, .nilsl, .nilptr, .bool false, .int .i64 p26, .int .i64 p27]]
def beB : List AObj := beG0 0 0 0 0 0 0 0 0 0 0 0 0 0 0 0 0 0 0 0 0 0 0 0 0
def beperm : List Nat := [33, 3, 5, 6, 8, 101, 31, 32, 12, 186, 16, 26, 168, 379, 20, 139, 134, 183, 162, 189, 367, 126, 362, 377, 192, 370, 375, 197, 225, 195, 203, 205, 206, 208, 279, 223, 224, 212, 340, 218, 327, 360, 316, 343, 348, 358, 351, 356]
theorem bebegun (H : AHeap) : Does Tryz.prog (Gof tab) 23 [benodes] H fun r h => ∃ ρ : Nat → Nat, IsPart (AHeap.ofList beB) ρ h ∧ (∀ i, i < beB.length → H.next ≤ ρ i) ∧ r = .ptr (ρ 0) 0 ∧ H.next ≤ h.next ∧ ∀ j, j < H.next → h.get j = H.get j :=
  fresh_does (fuel := 100000) (n := 300) nmixed nplain knownW_good ngof (perm := beperm) (by kernel_rfl) rfl (by decide) (fun Q => by kernel_rfl) H

theorem beok_0 (p0 p1 p2 p3 p4 p5 p6 p7 p8 p9 p10 p11 p12 p13 p14 p15 p16 p17 p18 p19 p20 p21 p22 p23 : Int) : heapOk 48 (beG0 p0 p1 p2 p3 p4 p5 p6 p7 p8 p9 p10 p11 p12 p13 p14 p15 p16 p17 p18 p19 p20 p21 p22 p23) = true := by kernel_rfl
theorem belen_0 (p0 p1 p2 p3 p4 p5 p6 p7 p8 p9 p10 p11 p12 p13 p14 p15 p16 p17 p18 p19 p20 p21 p22 p23 : Int) : (beG0 p0 p1 p2 p3 p4 p5 p6 p7 p8 p9 p10 p11 p12 p13 p14 p15 p16 p17 p18 p19 p20 p21 p22 p23).length = 48 := rfl
theorem beok_1 (p0 p1 p2 p3 p4 p5 p6 p7 p8 p9 p10 p11 p12 p13 p14 p15 p16 p17 p18 p19 p20 p21 p22 p23 p24 p25 p26 p27 : Int) : heapOk 48 (beG1 p0 p1 p2 p3 p4 p5 p6 p7 p8 p9 p10 p11 p12 p13 p14 p15 p16 p17 p18 p19 p20 p21 p22 p23 p24 p25 p26 p27) = true := by kernel_rfl
theorem belen_1 (p0 p1 p2 p3 p4 p5 p6 p7 p8 p9 p10 p11 p12 p13 p14 p15 p16 p17 p18 p19 p20 p21 p22 p23 p24 p25 p26 p27 : Int) : (beG1 p0 p1 p2 p3 p4 p5 p6 p7 p8 p9 p10 p11 p12 p13 p14 p15 p16 p17 p18 p19 p20 p21 p22 p23 p24 p25 p26 p27).length = 48 := rfl
theorem befits_0 (H : AHeap) : Does Tryz.prog (Gof tab) 21 [beins, .vsl [.int .i64 0] 1] H fun r h => r = .bool true ∧ h = H :=
  sym_does (fuel := 100000) (n := 300) nmixed nplain knownW_good ngof (by kernel_rfl) (fun Q => by kernel_rfl) (fun _ => rfl) H

theorem betick_0_0 (p0 p1 p2 p3 p4 p5 p6 p7 p8 p9 p10 p11 p12 p13 p14 p15 p16 p17 p18 p19 p20 p21 p22 p23 : Int) : Does Tryz.prog (Gof tab) 24 [.ptr 0 0, .vsl [.int .i64 0] 1] (AHeap.ofList (beG0 p0 p1 p2 p3 p4 p5 p6 p7 p8 p9 p10 p11 p12 p13 p14 p15 p16 p17 p18 p19 p20 p21 p22 p23)) fun r h => r = .vsl [.int .i64 (-1)] 1 ∧ h = AHeap.ofList (beG1 (0) ((-1)) (p0) (p1) (p2) (p3) (p4) (p5) (p6) (p7) (p8) (p9) (p10) (p11) (p12) (p13) (0) (1) (p14) (p15) (p16) (p17) (1) (1) (p20) (p21) (p22) (p23)) :=
  tick_does (fuel := 100000) (n := 300) nmixed nplain knownW_good (by kernel_rfl) (by kernel_rfl) (fun Q => by kernel_rfl)

theorem befits_1 (H : AHeap) : Does Tryz.prog (Gof tab) 21 [beins, .vsl [.int .i64 1] 1] H fun r h => r = .bool true ∧ h = H :=
  sym_does (fuel := 100000) (n := 300) nmixed nplain knownW_good ngof (by kernel_rfl) (fun Q => by kernel_rfl) (fun _ => rfl) H

theorem betick_0_1 (p0 p1 p2 p3 p4 p5 p6 p7 p8 p9 p10 p11 p12 p13 p14 p15 p16 p17 p18 p19 p20 p21 p22 p23 : Int) : Does Tryz.prog (Gof tab) 24 [.ptr 0 0, .vsl [.int .i64 1] 1] (AHeap.ofList (beG0 p0 p1 p2 p3 p4 p5 p6 p7 p8 p9 p10 p11 p12 p13 p14 p15 p16 p17 p18 p19 p20 p21 p22 p23)) fun r h => r = .vsl [.int .i64 1] 1 ∧ h = AHeap.ofList (beG1 (1) (1) (p0) (p1) (p2) (p3) (p4) (p5) (p6) (p7) (p8) (p9) (p10) (p11) (p12) (p13) (1) (1) (p14) (p15) (p16) (p17) (1) (1) (p20) (p21) (p22) (p23)) :=
  tick_does (fuel := 100000) (n := 300) nmixed nplain knownW_good (by kernel_rfl) (by kernel_rfl) (fun Q => by kernel_rfl)

theorem betick_1_0 (p0 p1 p2 p3 p4 p5 p6 p7 p8 p9 p10 p11 p12 p13 p14 p15 p16 p17 p18 p19 p20 p21 p22 p23 p24 p25 p26 p27 : Int) : Does Tryz.prog (Gof tab) 24 [.ptr 0 0, .vsl [.int .i64 0] 1] (AHeap.ofList (beG1 p0 p1 p2 p3 p4 p5 p6 p7 p8 p9 p10 p11 p12 p13 p14 p15 p16 p17 p18 p19 p20 p21 p22 p23 p24 p25 p26 p27)) fun r h => r = .vsl [.int .i64 (-1)] 1 ∧ h = AHeap.ofList (beG1 (0) ((-1)) (p2) (p3) (p4) (p5) (p6) (p7) (p8) (p9) (p10) (p11) (p12) (p13) (p14) (p15) (0) (fwrap IntKind.i64 (iadd 1 (p22))) (p18) (p19) (p20) (p21) (fwrap IntKind.i64 (iadd 1 (p22))) (fwrap IntKind.i64 (iadd 1 (p22))) (p24) (p25) (p26) (p27)) :=
  tick_does (fuel := 100000) (n := 300) nmixed nplain knownW_good (by kernel_rfl) (by kernel_rfl) (fun Q => by kernel_rfl)

theorem betick_1_1 (p0 p1 p2 p3 p4 p5 p6 p7 p8 p9 p10 p11 p12 p13 p14 p15 p16 p17 p18 p19 p20 p21 p22 p23 p24 p25 p26 p27 : Int) : Does Tryz.prog (Gof tab) 24 [.ptr 0 0, .vsl [.int .i64 1] 1] (AHeap.ofList (beG1 p0 p1 p2 p3 p4 p5 p6 p7 p8 p9 p10 p11 p12 p13 p14 p15 p16 p17 p18 p19 p20 p21 p22 p23 p24 p25 p26 p27)) fun r h => r = .vsl [.int .i64 (fwrap IntKind.i64 (iadd 1 (p22)))] 1 ∧ h = AHeap.ofList (beG1 (1) (fwrap IntKind.i64 (iadd 1 (p22))) (p2) (p3) (p4) (p5) (p6) (p7) (p8) (p9) (p10) (p11) (p12) (p13) (p14) (p15) (1) (fwrap IntKind.i64 (iadd 1 (p22))) (p18) (p19) (p20) (p21) (fwrap IntKind.i64 (iadd 1 (p22))) (fwrap IntKind.i64 (iadd 1 (p22))) (p24) (p25) (p26) (p27)) :=
  tick_does (fuel := 100000) (n := 300) nmixed nplain knownW_good (by kernel_rfl) (by kernel_rfl) (fun Q => by kernel_rfl)

end Go.Proofs.YtnnlgafmpobdhaaGreatDoor

/-
  A program's machine: what it tells, tick by tick: node n(z: bool) returns (y: int); let y = 1 + (0 fby y); tel node f(c: bool) returns (y: int); let y = merge c (n(c) when c) (0 - 1); tel
-/


namespace Go.Proofs.YtnnlgafmpobdhaaGreatDoor
open Go Go.Abs Go.RowKit
set_option maxRecDepth 100000
set_option linter.unusedVariables false
set_option linter.unusedSimpArgs false


def beRow (c : Nat → Bool) (i : Nat) : AV := .vsl [.int .i64 (if c i then 1 else 0)] 1
def beOut (c : Nat → Bool) (i : Nat) : AV := .vsl [.int .i64 (if c i then ((i + 1 : Nat) : Int) else -1)] 1
def beI (c : Nat → Bool) (i : Nat) (l : List AObj) : Prop := (∃ p0 p1 p2 p3 p4 p5 p6 p7 p8 p9 p10 p11 p12 p13 p14 p15 p16 p17 p18 p19 p20 p21 p22 p23 : Int, l = beG0 p0 p1 p2 p3 p4 p5 p6 p7 p8 p9 p10 p11 p12 p13 p14 p15 p16 p17 p18 p19 p20 p21 p22 p23 ∧ i = 0) ∨ (∃ p0 p1 p2 p3 p4 p5 p6 p7 p8 p9 p10 p11 p12 p13 p14 p15 p16 p17 p18 p19 p20 p21 p22 p23 p24 p25 p26 p27 : Int, l = beG1 p0 p1 p2 p3 p4 p5 p6 p7 p8 p9 p10 p11 p12 p13 p14 p15 p16 p17 p18 p19 p20 p21 p22 p23 p24 p25 p26 p27 ∧ p22 = (i : Int))
theorem bemachine (c : Nat → Bool) (n : Nat) (hn : n ≤ 1000) : ∃ g, MeanMachine (Gof tab) 48 g benodes ((List.range n).map (beRow c)) ((List.range n).map (beOut c)) := by
  refine machine_rel (B := beB) (I := beI c) ngof (by decide) (.inl ⟨_, _, _, _, _, _, _, _, _, _, _, _, _, _, _, _, _, _, _, _, _, _, _, _, rfl, rfl⟩) ?_ ?_ ?_ (c0 := .str [102]) (ins := beins) (c2 := .vsl [.str [121], .int .i64 2, .str [], .bool false, .int .i64 86] 1) (c3 := .vsl [] 0) (c4 := .vsl [.str [121], .str [109,101,114,103,101], .str [99], .int .i64 0, .int .i64 103, .vsl [.str [119,104,101,110], .str [99], .int .i64 1, .int .i64 117, .vsl [.str [99,97,108,108], .str [110], .int .i64 0, .int .i64 112, .vsl [.str [118,97,114], .str [99], .int .i64 0, .int .i64 114, .nilsl] 1] 1, .str [45], .str [], .int .i64 0, .int .i64 128, .vsl [.str [105,110,116], .str [], .int .i64 0, .int .i64 126, .nilsl, .str [105,110,116], .str [], .int .i64 1, .int .i64 130, .nilsl] 2] 2, .int .i64 99] 1) (c5 := .int .i64 61) rfl bemain_does ?_ (cn := 2) (by decide) becount bebegun ?_
  · rintro i l (⟨p0, p1, p2, p3, p4, p5, p6, p7, p8, p9, p10, p11, p12, p13, p14, p15, p16, p17, p18, p19, p20, p21, p22, p23, rfl, hp⟩ | ⟨p0, p1, p2, p3, p4, p5, p6, p7, p8, p9, p10, p11, p12, p13, p14, p15, p16, p17, p18, p19, p20, p21, p22, p23, p24, p25, p26, p27, rfl, hp⟩)
    · exact ⟨belen_0 _ _ _ _ _ _ _ _ _ _ _ _ _ _ _ _ _ _ _ _ _ _ _ _, beok_0 _ _ _ _ _ _ _ _ _ _ _ _ _ _ _ _ _ _ _ _ _ _ _ _⟩
    · exact ⟨belen_1 _ _ _ _ _ _ _ _ _ _ _ _ _ _ _ _ _ _ _ _ _ _ _ _ _ _ _ _, beok_1 _ _ _ _ _ _ _ _ _ _ _ _ _ _ _ _ _ _ _ _ _ _ _ _ _ _ _ _⟩
  · intro i _
    exact ⟨rfl, fun _ => rfl⟩
  · intro i _
    exact ⟨rfl, rfl, fun _ => rfl⟩
  · intro i _ H
    by_cases hc : c i = true
    · rw [show beRow c i = .vsl [.int .i64 1] 1 by simp [beRow, hc]]
      exact befits_1  H
    · rw [show beRow c i = .vsl [.int .i64 0] 1 by simp [beRow, hc]]
      exact befits_0  H
  · rintro i l hin (⟨p0, p1, p2, p3, p4, p5, p6, p7, p8, p9, p10, p11, p12, p13, p14, p15, p16, p17, p18, p19, p20, p21, p22, p23, rfl, hp⟩ | ⟨p0, p1, p2, p3, p4, p5, p6, p7, p8, p9, p10, p11, p12, p13, p14, p15, p16, p17, p18, p19, p20, p21, p22, p23, p24, p25, p26, p27, rfl, hp⟩)
    · by_cases hc : c i = true
      · rw [show beRow c i = .vsl [.int .i64 1] 1 by simp [beRow, hc]]
        refine ⟨_, .inr (⟨_, _, _, _, _, _, _, _, _, _, _, _, _, _, _, _, _, _, _, _, _, _, _, _, _, _, _, _, rfl, ?_⟩), (betick_0_1 _ _ _ _ _ _ _ _ _ _ _ _ _ _ _ _ _ _ _ _ _ _ _ _ ).mono fun r h ⟨e1, e2⟩ => ⟨e1.trans ?_, e2⟩⟩
        · subst hp; rfl
        · subst hp; simp [beOut, hc]
      · rw [show beRow c i = .vsl [.int .i64 0] 1 by simp [beRow, hc]]
        refine ⟨_, .inr (⟨_, _, _, _, _, _, _, _, _, _, _, _, _, _, _, _, _, _, _, _, _, _, _, _, _, _, _, _, rfl, ?_⟩), (betick_0_0 _ _ _ _ _ _ _ _ _ _ _ _ _ _ _ _ _ _ _ _ _ _ _ _ ).mono fun r h ⟨e1, e2⟩ => ⟨e1.trans ?_, e2⟩⟩
        · subst hp; rfl
        · subst hp; simp [beOut, hc]
    · by_cases hc : c i = true
      · rw [show beRow c i = .vsl [.int .i64 1] 1 by simp [beRow, hc]]
        refine ⟨_, .inr (⟨_, _, _, _, _, _, _, _, _, _, _, _, _, _, _, _, _, _, _, _, _, _, _, _, _, _, _, _, rfl, ?_⟩), (betick_1_1 _ _ _ _ _ _ _ _ _ _ _ _ _ _ _ _ _ _ _ _ _ _ _ _ _ _ _ _ ).mono fun r h ⟨e1, e2⟩ => ⟨e1.trans ?_, e2⟩⟩
        · rw [fwrap_eq, iadd_eq, hp, IntWalk.i64_in _ (by omega)]; omega
        · rw [fwrap_eq, iadd_eq, hp, IntWalk.i64_in _ (by omega)]; simp [beOut, hc]; omega
      · rw [show beRow c i = .vsl [.int .i64 0] 1 by simp [beRow, hc]]
        refine ⟨_, .inr (⟨_, _, _, _, _, _, _, _, _, _, _, _, _, _, _, _, _, _, _, _, _, _, _, _, _, _, _, _, rfl, ?_⟩), (betick_1_0 _ _ _ _ _ _ _ _ _ _ _ _ _ _ _ _ _ _ _ _ _ _ _ _ _ _ _ _ ).mono fun r h ⟨e1, e2⟩ => ⟨e1.trans ?_, e2⟩⟩
        · rw [fwrap_eq, iadd_eq, hp, IntWalk.i64_in _ (by omega)]; omega
        · simp [beOut, hc]
end Go.Proofs.YtnnlgafmpobdhaaGreatDoor

/-
  MeanBeneath: what is beneath a when goes on at the ticks at which the name does not hold, too.
-/


namespace Go.Proofs.YtnnlgafmpobdhaaGreatDoor
open Go Go.Abs Go.Lex Go.RowKit
set_option maxRecDepth 100000
set_option linter.unusedVariables false
set_option linter.unusedSimpArgs false

def beIn (c : Nat → Bool) (k : Nat) : List Int := [if c k then 1 else 0]
def beWant (c : Nat → Bool) (k : Nat) : List Int := [if c k then ((k + 1 : Nat) : Int) else -1]

set_option maxHeartbeats 4000000 in
theorem belaw_run (c : Nat → Bool) (n : Nat) (a0 : AV) (h0 : Arr (fun k => .bool (c k)) n a0) (H : AHeap) :
    Does Tryz.prog (Gof tab) 8 [a0] H fun r _ => r = .bool true := by
  refine Does.wf Tryz.call8 fun hw _ => ?_
  have e0 := alen_bools h0
  refine does_f Tryz.call8 Tryz.func8 rfl (by simp [Tryz.f8]) ?_
  simp
  refine does_use (awake12 _) ?_
  rintro _ HX ⟨rfl, hHX⟩
  rw [hHX]
  clear hHX HX
  simp [e0, -alen]
  by_cases hn : 40 < n
  · have : (40 : Int) < n := by omega
    simp [this, e0, -alen]
  have hn' : ¬ ((40 : Int) < n) := by omega
  simp [hn', e0, -alen]
  refine aws_loops (fun k T' H' => ∃ i : Nat, i + k = n ∧ T' 0 = a0 ∧ T' 5 = .int .i64 i ∧ Rows2 H H' (T' 3) (T' 4) (beIn c) 1 (beWant c) 1 i) n ?_ ?_
  · exact ⟨0, by simp, by simp, by simp, by simpa using Rows2.init H _ _ _ _⟩
  rintro k T H1 ⟨i, hik, t0, t5, hR⟩ hw1 _
  by_cases hi : i < n
  · have hii : (i : Int) < n := by omega
    have p0 := arr_pos h0 (by omega)
    have q0 := at_range (f := fun k => AV.bool (c k)) hi
    rw [p0] at t0 e0
    refine aws_f ?_
    have wr : IntKind.i64.wrap ((i : Int) + 1) = ((i + 1 : Nat) : Int) := by rw [IntWalk.i64_in _ (by omega)]; omega
    have wr1 : IntKind.i64.wrap 1 = 1 := by decide
    by_cases hi0 : i = 0
    · subst hi0
      obtain ⟨t3, t4⟩ := hR.zero
      have hcs : (c 0 = false) ∨ (c 0 = true) := by cases c 0 <;> simp
      rcases hcs with hc | hc
      · simp [t0, t5, t3, t4, e0, hi, hii, q0, hc, -alen]
        exact ⟨k - 1, by omega, 1, by omega, p0.symm, wr, hR.first hw (by simp [ri, beIn, hc]) (by simp [ri, beWant, beOut, hc, wr, wr1])⟩
      · simp [t0, t5, t3, t4, e0, hi, hii, q0, hc, -alen]
        exact ⟨k - 1, by omega, 1, by omega, p0.symm, wr, hR.first hw (by simp [ri, beIn, hc]) (by simp [ri, beWant, beOut, hc, wr, wr1])⟩
    · obtain ⟨b1, b2, ρ1, ρ2, t3, t4, hg1, hg2, hb1l, hb2l, n8, hR'⟩ := hR.more (by omega) hw
      have n1 : b1 ≠ H1.next := by omega
      have n2 : b1 ≠ H1.next + 1 := by omega
      have n3 : b2 ≠ H1.next := by omega
      have n4 : b2 ≠ H1.next + 1 := by omega
      have n5 : b2 ≠ H1.next + 1 + 1 := by omega
      have n6 : b2 ≠ H1.next + 1 + 1 + 1 := by omega
      have n7 : b2 ≠ H1.next + 1 + 1 + 1 + 1 := by omega
      have hgrow : ¬ (i + 1 ≤ i) := by omega
      have g3 : (i + 1) * 24 ≤ 140737488355328 := by omega
      have g4 : i ≤ 4611686018427387903 := by omega
      have k1 : List.take i (List.map (fun k => AV.sl (ρ1 k) 0 1 1 1 false) (List.range i)) = List.map (fun k => AV.sl (ρ1 k) 0 1 1 1 false) (List.range i) := List.take_of_length_le (by simp)
      have k2 : List.take i (List.map (fun k => AV.sl (ρ2 k) 0 1 1 1 false) (List.range i)) = List.map (fun k => AV.sl (ρ2 k) 0 1 1 1 false) (List.range i) := List.take_of_length_le (by simp)
      have hcs : (c i = false) ∨ (c i = true) := by cases c i <;> simp
      rcases hcs with hc | hc
      · simp [t0, t5, t3, t4, e0, hi, hii, q0, hc, hg1, hg2, n1, n2, n3, n4, n5, n6, n7, n8, hgrow, g3, g4, k1, k2, -alen, -List.map_take]
        exact ⟨k - 1, by omega, i + 1, by omega, p0.symm, wr, hR' _ _ (by simp [ri, beIn, hc]) (by simp [ri, beWant, beOut, hc, wr, wr1])⟩
      · simp [t0, t5, t3, t4, e0, hi, hii, q0, hc, hg1, hg2, n1, n2, n3, n4, n5, n6, n7, n8, hgrow, g3, g4, k1, k2, -alen, -List.map_take]
        exact ⟨k - 1, by omega, i + 1, by omega, p0.symm, wr, hR' _ _ (by simp [ri, beIn, hc]) (by simp [ri, beWant, beOut, hc, wr, wr1])⟩
  · obtain rfl : i = n := by omega
    refine aws_two 3 4 hw hR (fun _ => rfl) (fun _ => rfl) fun T2 f3 f4 ft => aws_f ?_
    have u0 : T2 0 = a0 := (ft 0 (by decide) (by decide)).trans t0
    have u5 : T2 5 = .int .i64 (i : Nat) := (ft 5 (by decide) (by decide)).trans t5
    simp [u0, u5, f3, f4, e0, -alen]
    obtain ⟨g, M⟩ := bemachine c i (by omega)
    have ho := fun H => all_true (G := Gof tab) ((List.range i).map (beWant c)) (by simp; omega) (fun l hl => by
      obtain ⟨k, _, rfl⟩ := List.mem_map.1 hl
      exact Nat.lt_of_le_of_lt (Nat.le_of_eq rfl : (beWant c k).length ≤ 1) (by decide)) H
    rw [← rows_outs (out := beOut c) (fun _ => rfl)] at ho
    have hsc : (rowsV ((List.range i).map (beOut c))).scalar = true := by unfold rowsV; split <;> rfl
    refine does_use (m_text M (by decide) (by simp; omega) becheck _) ?_
    rintro _ HX ⟨rfl, hHX⟩
    rw [hHX]
    clear hHX HX
    simp [u0, u5, f3, f4, e0, hsc, -alen]
    refine does_use (ho _) ?_
    rintro _ HX ⟨rfl, hHX⟩
    rw [hHX]
    clear hHX HX
    simp

theorem belaw_any (H : AHeap) (a0 : AV) (s0 : Shp Tryz.prog 8 36 [a0]) : Does Tryz.prog (Gof tab) 8 [a0] H fun r _ => r = .bool true := by
  obtain ⟨n0, c0, _, h0⟩ := shp_bools Tryz.underlying36 Tryz.underlying4 s0
  exact belaw_run c0 n0 a0 h0 H
end Go.Proofs.YtnnlgafmpobdhaaGreatDoor
