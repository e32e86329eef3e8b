/-
  Own library of this claim, part 5: texts one behind the other (MnHo, MnHoM, MnHoL).
-/
import Derived.Test.YtnnlgafmpobdhaaGreatDoorLibD

/-
  A program's machine, known by the evaluator: node hold(c: bool; x: int) returns (y: int); let y = merge c (x when c) (((- 1) fby y) when not c); tel node f(c: bool; x: int) returns (y: int); let y = hold(c, x); tel
-/

namespace Go.Proofs.YtnnlgafmpobdhaaGreatDoor
open Go Go.Abs Go.RowKit
set_option maxRecDepth 100000
set_option linter.unusedVariables false

def hotext : List UInt8 := [110,111,100,101,32,104,111,108,100,40,99,58,32,98,111,111,108,59,32,120,58,32,105,110,116,41,32,114,101,116,117,114,110,115,32,40,121,58,32,105,110,116,41,59,32,108,101,116,32,121,32,61,32,109,101,114,103,101,32,99,32,40,120,32,119,104,101,110,32,99,41,32,40,40,40,45,32,49,41,32,102,98,121,32,121,41,32,119,104,101,110,32,110,111,116,32,99,41,59,32,116,101,108,32,110,111,100,101,32,102,40,99,58,32,98,111,111,108,59,32,120,58,32,105,110,116,41,32,114,101,116,117,114,110,115,32,40,121,58,32,105,110,116,41,59,32,108,101,116,32,121,32,61,32,104,111,108,100,40,99,44,32,120,41,59,32,116,101,108]
def hocells : List AV := [.str [104,111,108,100], .vsl [.str [99], .int .i64 1, .str [], .bool false, .int .i64 10, .str [120], .int .i64 2, .str [], .bool false, .int .i64 19] 2, .vsl [.str [121], .int .i64 2, .str [], .bool false, .int .i64 36] 1, .nilsl, .vsl [.str [121], .str [109,101,114,103,101], .str [99], .int .i64 0, .int .i64 53, .vsl [.str [119,104,101,110], .str [99], .int .i64 1, .int .i64 64, .vsl [.str [118,97,114], .str [120], .int .i64 0, .int .i64 62, .nilsl] 1, .str [119,104,101,110], .str [99], .int .i64 0, .int .i64 87, .vsl [.str [102,98,121], .str [], .int .i64 0, .int .i64 80, .vsl [.str [110,101,103], .str [], .int .i64 0, .int .i64 75, .vsl [.str [105,110,116], .str [], .int .i64 1, .int .i64 77, .nilsl] 1, .str [118,97,114], .str [121], .int .i64 0, .int .i64 84, .nilsl] 2] 1] 2, .int .i64 49] 1, .int .i64 0, .str [102], .vsl [.str [99], .int .i64 1, .str [], .bool false, .int .i64 111, .str [120], .int .i64 2, .str [], .bool false, .int .i64 120] 2, .vsl [.str [121], .int .i64 2, .str [], .bool false, .int .i64 137] 1, .nilsl, .vsl [.str [121], .str [99,97,108,108], .str [104,111,108,100], .int .i64 0, .int .i64 154, .vsl [.str [118,97,114], .str [99], .int .i64 0, .int .i64 159, .nilsl, .str [118,97,114], .str [120], .int .i64 0, .int .i64 162, .nilsl] 2, .int .i64 150] 1, .int .i64 104]
def honodes : AV := .vsl hocells 2
def hook : AV := .agg [.int .i64 0, .int .i64 0]
def holit : AV := .tuple [honodes, hook]
def hoins : AV := .vsl [.str [99], .int .i64 1, .str [], .bool false, .int .i64 111, .str [120], .int .i64 2, .str [], .bool false, .int .i64 120] 2
def homain : AV := .agg [.str [102], hoins, .vsl [.str [121], .int .i64 2, .str [], .bool false, .int .i64 137] 1, .vsl [] 0, .vsl [.str [121], .str [99,97,108,108], .str [104,111,108,100], .int .i64 0, .int .i64 154, .vsl [.str [118,97,114], .str [99], .int .i64 0, .int .i64 159, .nilsl, .str [118,97,114], .str [120], .int .i64 0, .int .i64 162, .nilsl] 2, .int .i64 150] 1, .int .i64 104]
theorem hoparse_run : fcall knownW Tryz.prog (Gof tab) 100000 300 18 [.str hotext] FH.empty (litK holit) = true := by kernel_rfl
theorem hoparse (H : AHeap) : Does Tryz.prog (Gof tab) 18 [.str hotext] H fun r h => r = holit ∧ h = H :=
  lit_does nmixed nplain knownW_good ngof (by kernel_rfl) (by kernel_rfl) hoparse_run H
theorem hotree_run : fcall knownW Tryz.prog (Gof tab) 100000 300 19 [honodes] FH.empty (litK hook) = true := by kernel_rfl
theorem hotree (H : AHeap) : Does Tryz.prog (Gof tab) 19 [honodes] H fun r h => r = hook ∧ h = H :=
  lit_does nmixed nplain knownW_good ngof (by kernel_rfl) (by kernel_rfl) hotree_run H
noncomputable def hoknown : Ov := ovAdd 18 (litOv [([.str hotext], holit)]) (ovAdd 19 (litOv [([honodes], hook)]) knownW)
theorem hoknown_good : OvGoodK Tryz.prog (Gof tab) hoknown := ovAdd_good (litOv_good fun e he H => by
  simp only [List.mem_cons, List.not_mem_nil, or_false] at he
  subst he
  exact hoparse H) (ovAdd_good (litOv_good fun e he H => by
  simp only [List.mem_cons, List.not_mem_nil, or_false] at he
  subst he
  exact hotree H) knownW_good)
theorem hocheck_run : fcall hoknown Tryz.prog (Gof tab) 100000 300 15 [.str hotext] FH.empty (litK holit) = true := by kernel_rfl
theorem hocheck (H : AHeap) : Does Tryz.prog (Gof tab) 15 [.str hotext] H fun r h => r = holit ∧ h = H :=
  lit_does nmixed nplain hoknown_good ngof (by kernel_rfl) (by kernel_rfl) hocheck_run H
theorem homain_run : fcall knownW Tryz.prog (Gof tab) 100000 300 20 [honodes] FH.empty (litK homain) = true := by kernel_rfl
theorem homain_does (H : AHeap) : Does Tryz.prog (Gof tab) 20 [honodes] H fun r h => r = homain ∧ h = H :=
  lit_does nmixed nplain knownW_good ngof (by kernel_rfl) (by kernel_rfl) homain_run H
theorem hocount_run : fcall knownW Tryz.prog (Gof tab) 100000 300 22 [honodes] FH.empty (litK (.int .i64 2)) = true := by kernel_rfl
theorem hocount (H : AHeap) : Does Tryz.prog (Gof tab) 22 [honodes] H fun r h => r = .int .i64 2 ∧ h = H :=
  lit_does nmixed nplain knownW_good ngof (by kernel_rfl) (by kernel_rfl) hocount_run H

def hoG0 (p0 p1 p2 p3 p4 p5 p6 p7 p8 p9 p10 p11 p12 p13 p14 p15 p16 p17 p18 p19 p20 p21 : Int) : List AObj := [
  .cells [.str [102], .sl 1 0 5 2 2 true, .sl 2 0 5 1 1 true, .sl 3 0 5 0 0 false, .sl 4 0 7 1 1 true, .int .i64 104, .sl 5 0 1 1 1 true, .map 6, .map 7, .nilsl],
  .cells [.str [99], .int .i64 1, .str [], .bool false, .int .i64 111, .str [120], .int .i64 2, .str [], .bool false, .int .i64 120],
  .cells [.str [121], .int .i64 2, .str [], .bool false, .int .i64 137],
  .cells [],
  .cells [.str [121], .str [99,97,108,108], .str [104,111,108,100], .int .i64 0, .int .i64 154, .sl 8 0 5 2 2 true, .int .i64 150],
  .cells [.str [121]],
  .map [(.str [121], .ptr 9 0)],
  .map [],
  .cells [.str [118,97,114], .str [99], .int .i64 0, .int .i64 159, .nilsl, .str [118,97,114], .str [120], .int .i64 0, .int .i64 162, .nilsl],
  .cells [.str [99,97,108,108], .str [104,111,108,100], .int .i64 0, .int .i64 154, .nilsl, .nilsl, .sl 10 0 8 2 2 true, .bool false, .sl 11 0 1 2 2 true, .ptr 12 0, .bool false, .int .i64 p0, .int .i64 p1],
  .cells [.str [118,97,114], .str [99], .int .i64 0, .int .i64 159, .nilsl, .nilsl, .nilsl, .bool false, .str [118,97,114], .str [120], .int .i64 0, .int .i64 162, .nilsl, .nilsl, .nilsl, .bool false],
  .cells [.ptr 13 0, .ptr 14 0],
  .cells [.str [104,111,108,100], .sl 15 0 5 2 2 true, .sl 16 0 5 1 1 true, .sl 17 0 5 0 0 false, .sl 18 0 7 1 1 true, .int .i64 0, .sl 19 0 1 1 1 true, .map 20, .map 21, .nilsl],
  .cells [.str [118,97,114], .str [99], .int .i64 0, .int .i64 159, .nilsl, .nilsl, .nilsl, .bool false, .nilsl, .nilptr, .bool false, .int .i64 p2, .int .i64 p3],
  .cells [.str [118,97,114], .str [120], .int .i64 0, .int .i64 162, .nilsl, .nilsl, .nilsl, .bool false, .nilsl, .nilptr, .bool false, .int .i64 p4, .int .i64 p5],
  .cells [.str [99], .int .i64 1, .str [], .bool false, .int .i64 10, .str [120], .int .i64 2, .str [], .bool false, .int .i64 19],
  .cells [.str [121], .int .i64 2, .str [], .bool false, .int .i64 36],
  .cells [],
  .cells [.str [121], .str [109,101,114,103,101], .str [99], .int .i64 0, .int .i64 53, .sl 22 0 5 2 2 true, .int .i64 49],
  .cells [.str [121]],
  .map [(.str [121], .ptr 23 0)],
  .map [],
  .cells [.str [119,104,101,110], .str [99], .int .i64 1, .int .i64 64, .sl 24 0 5 1 1 true, .str [119,104,101,110], .str [99], .int .i64 0, .int .i64 87, .sl 25 0 5 1 1 true],
  .cells [.str [109,101,114,103,101], .str [99], .int .i64 0, .int .i64 53, .nilsl, .nilsl, .sl 26 0 8 2 2 true, .bool false, .sl 27 0 1 2 2 true, .nilptr, .bool false, .int .i64 p6, .int .i64 p7],
  .cells [.str [118,97,114], .str [120], .int .i64 0, .int .i64 62, .nilsl],
  .cells [.str [102,98,121], .str [], .int .i64 0, .int .i64 80, .sl 28 0 5 2 2 true],
  .cells [.str [119,104,101,110], .str [99], .int .i64 1, .int .i64 64, .nilsl, .sl 29 0 2 1 1 true, .sl 30 0 8 1 1 true, .bool false, .str [119,104,101,110], .str [99], .int .i64 0, .int .i64 87, .nilsl, .sl 31 0 2 1 1 true, .sl 32 0 8 1 1 true, .bool false],
  .cells [.ptr 33 0, .ptr 34 0],
  .cells [.str [110,101,103], .str [], .int .i64 0, .int .i64 75, .sl 35 0 5 1 1 true, .str [118,97,114], .str [121], .int .i64 0, .int .i64 84, .nilsl],
  .cells [.str [99], .bool false],
  .cells [.str [118,97,114], .str [120], .int .i64 0, .int .i64 62, .nilsl, .nilsl, .nilsl, .bool false],
  .cells [.str [99], .bool true],
  .cells [.str [102,98,121], .str [], .int .i64 0, .int .i64 80, .nilsl, .nilsl, .sl 36 0 8 2 2 true, .bool false],
  .cells [.str [119,104,101,110], .str [99], .int .i64 1, .int .i64 64, .nilsl, .sl 29 0 2 1 1 true, .sl 30 0 8 1 1 true, .bool false, .sl 37 0 1 1 1 true, .nilptr, .bool false, .int .i64 p8, .int .i64 p9],
  .cells [.str [119,104,101,110], .str [99], .int .i64 0, .int .i64 87, .nilsl, .sl 31 0 2 1 1 true, .sl 32 0 8 1 1 true, .bool false, .sl 38 0 1 1 1 true, .nilptr, .bool false, .int .i64 p10, .int .i64 p11],
  .cells [.str [105,110,116], .str [], .int .i64 1, .int .i64 77, .nilsl],
  .cells [.str [110,101,103], .str [], .int .i64 0, .int .i64 75, .nilsl, .nilsl, .sl 39 0 8 1 1 true, .bool true, .str [118,97,114], .str [121], .int .i64 0, .int .i64 84, .nilsl, .nilsl, .nilsl, .bool false],
  .cells [.ptr 40 0],
  .cells [.ptr 41 0],
  .cells [.str [105,110,116], .str [], .int .i64 1, .int .i64 77, .nilsl, .nilsl, .nilsl, .bool true],
  .cells [.str [118,97,114], .str [120], .int .i64 0, .int .i64 62, .nilsl, .nilsl, .nilsl, .bool false, .nilsl, .nilptr, .bool false, .int .i64 p12, .int .i64 p13],
  .cells [.str [102,98,121], .str [], .int .i64 0, .int .i64 80, .nilsl, .nilsl, .sl 36 0 8 2 2 true, .bool false, .sl 42 0 1 2 2 true, .nilptr, .bool false, .int .i64 p14, .int .i64 p15],
  .cells [.ptr 43 0, .ptr 44 0],
  .cells [.str [110,101,103], .str [], .int .i64 0, .int .i64 75, .nilsl, .nilsl, .sl 39 0 8 1 1 true, .bool true, .sl 45 0 1 1 1 true, .nilptr, .bool false, .int .i64 p16, .int .i64 p17],
  .cells [.str [118,97,114], .str [121], .int .i64 0, .int .i64 84, .nilsl, .nilsl, .nilsl, .bool false, .nilsl, .nilptr, .bool false, .int .i64 p18, .int .i64 p19],
  .cells [.ptr 46 0],
  .cells [.str [105,110,116], .str [], .int .i64 1, .int .i64 77, .nilsl, .nilsl, .nilsl, .bool true, .nilsl, .nilptr, .bool false, .int .i64 p20, .int .i64 p21]]
def hoG1 (p0 p1 p2 p3 p4 p5 p6 p7 p8 p9 p10 p11 p12 p13 p14 p15 p16 p17 p18 p19 p20 p21 p22 p23 p24 p25 p26 p27 : Int) : List AObj := [
  .cells [.str [102], .sl 1 0 5 2 2 true, .sl 2 0 5 1 1 true, .sl 3 0 5 0 0 false, .sl 4 0 7 1 1 true, .int .i64 104, .sl 5 0 1 1 1 true, .map 6, .map 7, .nilsl],
  .cells [.str [99], .int .i64 1, .str [], .bool false, .int .i64 111, .str [120], .int .i64 2, .str [], .bool false, .int .i64 120],
  .cells [.str [121], .int .i64 2, .str [], .bool false, .int .i64 137],
  .cells [],
  .cells [.str [121], .str [99,97,108,108], .str [104,111,108,100], .int .i64 0, .int .i64 154, .sl 8 0 5 2 2 true, .int .i64 150],
  .cells [.str [121]],
  .map [(.str [121], .ptr 9 0)],
  .map [(.str [99], .int .i64 p0), (.str [120], .int .i64 p1), (.str [121], .int .i64 p2)],
  .cells [.str [118,97,114], .str [99], .int .i64 0, .int .i64 159, .nilsl, .str [118,97,114], .str [120], .int .i64 0, .int .i64 162, .nilsl],
  .cells [.str [99,97,108,108], .str [104,111,108,100], .int .i64 0, .int .i64 154, .nilsl, .nilsl, .sl 10 0 8 2 2 true, .bool false, .sl 11 0 1 2 2 true, .ptr 12 0, .bool false, .int .i64 p3, .int .i64 p4],
  .cells [.str [118,97,114], .str [99], .int .i64 0, .int .i64 159, .nilsl, .nilsl, .nilsl, .bool false, .str [118,97,114], .str [120], .int .i64 0, .int .i64 162, .nilsl, .nilsl, .nilsl, .bool false],
  .cells [.ptr 13 0, .ptr 14 0],
  .cells [.str [104,111,108,100], .sl 15 0 5 2 2 true, .sl 16 0 5 1 1 true, .sl 17 0 5 0 0 false, .sl 18 0 7 1 1 true, .int .i64 0, .sl 19 0 1 1 1 true, .map 20, .map 21, .nilsl],
  .cells [.str [118,97,114], .str [99], .int .i64 0, .int .i64 159, .nilsl, .nilsl, .nilsl, .bool false, .nilsl, .nilptr, .bool false, .int .i64 p5, .int .i64 p6],
  .cells [.str [118,97,114], .str [120], .int .i64 0, .int .i64 162, .nilsl, .nilsl, .nilsl, .bool false, .nilsl, .nilptr, .bool false, .int .i64 p7, .int .i64 p8],
  .cells [.str [99], .int .i64 1, .str [], .bool false, .int .i64 10, .str [120], .int .i64 2, .str [], .bool false, .int .i64 19],
  .cells [.str [121], .int .i64 2, .str [], .bool false, .int .i64 36],
  .cells [],
  .cells [.str [121], .str [109,101,114,103,101], .str [99], .int .i64 0, .int .i64 53, .sl 22 0 5 2 2 true, .int .i64 49],
  .cells [.str [121]],
  .map [(.str [121], .ptr 23 0)],
  .map [(.str [99], .int .i64 p9), (.str [120], .int .i64 p10), (.str [121], .int .i64 p11)],
  .cells [.str [119,104,101,110], .str [99], .int .i64 1, .int .i64 64, .sl 24 0 5 1 1 true, .str [119,104,101,110], .str [99], .int .i64 0, .int .i64 87, .sl 25 0 5 1 1 true],
  .cells [.str [109,101,114,103,101], .str [99], .int .i64 0, .int .i64 53, .nilsl, .nilsl, .sl 26 0 8 2 2 true, .bool false, .sl 27 0 1 2 2 true, .nilptr, .bool false, .int .i64 p12, .int .i64 p13],
  .cells [.str [118,97,114], .str [120], .int .i64 0, .int .i64 62, .nilsl],
  .cells [.str [102,98,121], .str [], .int .i64 0, .int .i64 80, .sl 28 0 5 2 2 true],
  .cells [.str [119,104,101,110], .str [99], .int .i64 1, .int .i64 64, .nilsl, .sl 29 0 2 1 1 true, .sl 30 0 8 1 1 true, .bool false, .str [119,104,101,110], .str [99], .int .i64 0, .int .i64 87, .nilsl, .sl 31 0 2 1 1 true, .sl 32 0 8 1 1 true, .bool false],
  .cells [.ptr 33 0, .ptr 34 0],
  .cells [.str [110,101,103], .str [], .int .i64 0, .int .i64 75, .sl 35 0 5 1 1 true, .str [118,97,114], .str [121], .int .i64 0, .int .i64 84, .nilsl],
  .cells [.str [99], .bool false],
  .cells [.str [118,97,114], .str [120], .int .i64 0, .int .i64 62, .nilsl, .nilsl, .nilsl, .bool false],
  .cells [.str [99], .bool true],
  .cells [.str [102,98,121], .str [], .int .i64 0, .int .i64 80, .nilsl, .nilsl, .sl 36 0 8 2 2 true, .bool false],
  .cells [.str [119,104,101,110], .str [99], .int .i64 1, .int .i64 64, .nilsl, .sl 29 0 2 1 1 true, .sl 30 0 8 1 1 true, .bool false, .sl 37 0 1 1 1 true, .nilptr, .bool false, .int .i64 p14, .int .i64 p15],
  .cells [.str [119,104,101,110], .str [99], .int .i64 0, .int .i64 87, .nilsl, .sl 31 0 2 1 1 true, .sl 32 0 8 1 1 true, .bool false, .sl 38 0 1 1 1 true, .nilptr, .bool false, .int .i64 p16, .int .i64 p17],
  .cells [.str [105,110,116], .str [], .int .i64 1, .int .i64 77, .nilsl],
  .cells [.str [110,101,103], .str [], .int .i64 0, .int .i64 75, .nilsl, .nilsl, .sl 39 0 8 1 1 true, .bool true, .str [118,97,114], .str [121], .int .i64 0, .int .i64 84, .nilsl, .nilsl, .nilsl, .bool false],
  .cells [.ptr 40 0],
  .cells [.ptr 41 0],
  .cells [.str [105,110,116], .str [], .int .i64 1, .int .i64 77, .nilsl, .nilsl, .nilsl, .bool true],
  .cells [.str [118,97,114], .str [120], .int .i64 0, .int .i64 62, .nilsl, .nilsl, .nilsl, .bool false, .nilsl, .nilptr, .bool false, .int .i64 p18, .int .i64 p19],
  .cells [.str [102,98,121], .str [], .int .i64 0, .int .i64 80, .nilsl, .nilsl, .sl 36 0 8 2 2 true, .bool false, .sl 42 0 1 2 2 true, .nilptr, .bool true, .int .i64 p20, .int .i64 p21],
  .cells [.ptr 43 0, .ptr 44 0],
  .cells [.str [110,101,103], .str [], .int .i64 0, .int .i64 75, .nilsl, .nilsl, .sl 39 0 8 1 1 true, .bool true, .sl 45 0 1 1 1 true, .nilptr, .bool false, .int .i64 p22, .int .i64 p23],
  .cells [.str [118,97,114], .str [121], .int .i64 0, .int .i64 84, .nilsl, .nilsl, .nilsl, .bool false, .nilsl, .nilptr, .bool false, .int .i64 p24, .int .i64 p25],
  .cells [.ptr 46 0],
  .cells [.str [105,110,116], .str [], .int .i64 1, .int .i64 77, .nilsl, .nilsl, .nilsl, .bool true, .nilsl, .nilptr, .bool false, .int .i64 p26, .int .i64 p27]]
def hoB : List AObj := hoG0 0 0 0 0 0 0 0 0 0 0 0 0 0 0 0 0 0 0 0 0 0 0
def hoperm : List Nat := [19, 3, 5, 6, 8, 65, 17, 18, 12, 103, 91, 113, 153, 106, 111, 119, 121, 122, 124, 225, 151, 152, 128, 326, 132, 138, 307, 361, 142, 251, 246, 304, 299, 329, 339, 146, 288, 334, 359, 274, 332, 342, 357, 345, 355, 350, 348]
theorem hobegun (H : AHeap) : Does Tryz.prog (Gof tab) 23 [honodes] H fun r h => ∃ ρ : Nat → Nat, IsPart (AHeap.ofList hoB) ρ h ∧ (∀ i, i < hoB.length → H.next ≤ ρ i) ∧ r = .ptr (ρ 0) 0 ∧ H.next ≤ h.next ∧ ∀ j, j < H.next → h.get j = H.get j :=
  fresh_does (fuel := 100000) (n := 300) nmixed nplain knownW_good ngof (perm := hoperm) (by kernel_rfl) rfl (by decide) (fun Q => by kernel_rfl) H

theorem hook_0 (p0 p1 p2 p3 p4 p5 p6 p7 p8 p9 p10 p11 p12 p13 p14 p15 p16 p17 p18 p19 p20 p21 : Int) : heapOk 47 (hoG0 p0 p1 p2 p3 p4 p5 p6 p7 p8 p9 p10 p11 p12 p13 p14 p15 p16 p17 p18 p19 p20 p21) = true := by kernel_rfl
theorem holen_0 (p0 p1 p2 p3 p4 p5 p6 p7 p8 p9 p10 p11 p12 p13 p14 p15 p16 p17 p18 p19 p20 p21 : Int) : (hoG0 p0 p1 p2 p3 p4 p5 p6 p7 p8 p9 p10 p11 p12 p13 p14 p15 p16 p17 p18 p19 p20 p21).length = 47 := rfl
theorem hook_1 (p0 p1 p2 p3 p4 p5 p6 p7 p8 p9 p10 p11 p12 p13 p14 p15 p16 p17 p18 p19 p20 p21 p22 p23 p24 p25 p26 p27 : Int) : heapOk 47 (hoG1 p0 p1 p2 p3 p4 p5 p6 p7 p8 p9 p10 p11 p12 p13 p14 p15 p16 p17 p18 p19 p20 p21 p22 p23 p24 p25 p26 p27) = true := by kernel_rfl
theorem holen_1 (p0 p1 p2 p3 p4 p5 p6 p7 p8 p9 p10 p11 p12 p13 p14 p15 p16 p17 p18 p19 p20 p21 p22 p23 p24 p25 p26 p27 : Int) : (hoG1 p0 p1 p2 p3 p4 p5 p6 p7 p8 p9 p10 p11 p12 p13 p14 p15 p16 p17 p18 p19 p20 p21 p22 p23 p24 p25 p26 p27).length = 47 := rfl
theorem hofits_0i (x1 : Int) (H : AHeap) : Does Tryz.prog (Gof tab) 21 [hoins, .vsl [.int .i64 0, .int .i64 x1] 2] H fun r h => r = .bool true ∧ h = H :=
  sym_does (fuel := 100000) (n := 300) nmixed nplain knownW_good ngof (by kernel_rfl) (fun Q => by kernel_rfl) (fun _ => rfl) H

theorem hotick_0_0i (p0 p1 p2 p3 p4 p5 p6 p7 p8 p9 p10 p11 p12 p13 p14 p15 p16 p17 p18 p19 p20 p21 : Int) (x1 : Int) : Does Tryz.prog (Gof tab) 24 [.ptr 0 0, .vsl [.int .i64 0, .int .i64 x1] 2] (AHeap.ofList (hoG0 p0 p1 p2 p3 p4 p5 p6 p7 p8 p9 p10 p11 p12 p13 p14 p15 p16 p17 p18 p19 p20 p21)) fun r h => r = .vsl [.int .i64 (-1)] 1 ∧ h = AHeap.ofList (hoG1 (0) (x1) ((-1)) (p0) (p1) (p2) (p3) (p4) (p5) (0) (x1) ((-1)) (p6) (p7) (p8) (p9) (p10) (p11) (p12) (p13) ((-1)) ((-1)) (p16) (p17) (p18) (p19) (p20) (p21)) :=
  tick_does (fuel := 100000) (n := 300) nmixed nplain knownW_good (by kernel_rfl) (by kernel_rfl) (fun Q => by kernel_rfl)

theorem hofits_1i (x1 : Int) (H : AHeap) : Does Tryz.prog (Gof tab) 21 [hoins, .vsl [.int .i64 1, .int .i64 x1] 2] H fun r h => r = .bool true ∧ h = H :=
  sym_does (fuel := 100000) (n := 300) nmixed nplain knownW_good ngof (by kernel_rfl) (fun Q => by kernel_rfl) (fun _ => rfl) H

theorem hotick_0_1i (p0 p1 p2 p3 p4 p5 p6 p7 p8 p9 p10 p11 p12 p13 p14 p15 p16 p17 p18 p19 p20 p21 : Int) (x1 : Int) : Does Tryz.prog (Gof tab) 24 [.ptr 0 0, .vsl [.int .i64 1, .int .i64 x1] 2] (AHeap.ofList (hoG0 p0 p1 p2 p3 p4 p5 p6 p7 p8 p9 p10 p11 p12 p13 p14 p15 p16 p17 p18 p19 p20 p21)) fun r h => r = .vsl [.int .i64 (x1)] 1 ∧ h = AHeap.ofList (hoG1 (1) (x1) (x1) (p0) (p1) (p2) (p3) (p4) (p5) (1) (x1) (x1) (p6) (p7) (p8) (p9) (p10) (p11) (p12) (p13) (x1) (x1) (p16) (p17) (p18) (p19) (p20) (p21)) :=
  tick_does (fuel := 100000) (n := 300) nmixed nplain knownW_good (by kernel_rfl) (by kernel_rfl) (fun Q => by kernel_rfl)

theorem hotick_1_0i (p0 p1 p2 p3 p4 p5 p6 p7 p8 p9 p10 p11 p12 p13 p14 p15 p16 p17 p18 p19 p20 p21 p22 p23 p24 p25 p26 p27 : Int) (x1 : Int) : Does Tryz.prog (Gof tab) 24 [.ptr 0 0, .vsl [.int .i64 0, .int .i64 x1] 2] (AHeap.ofList (hoG1 p0 p1 p2 p3 p4 p5 p6 p7 p8 p9 p10 p11 p12 p13 p14 p15 p16 p17 p18 p19 p20 p21 p22 p23 p24 p25 p26 p27)) fun r h => r = .vsl [.int .i64 (p20)] 1 ∧ h = AHeap.ofList (hoG1 (0) (x1) (p20) (p3) (p4) (p5) (p6) (p7) (p8) (0) (x1) (p20) (p12) (p13) (p14) (p15) (p16) (p17) (p18) (p19) (p20) (p20) (p22) (p23) (p24) (p25) (p26) (p27)) :=
  tick_does (fuel := 100000) (n := 300) nmixed nplain knownW_good (by kernel_rfl) (by kernel_rfl) (fun Q => by kernel_rfl)

theorem hotick_1_1i (p0 p1 p2 p3 p4 p5 p6 p7 p8 p9 p10 p11 p12 p13 p14 p15 p16 p17 p18 p19 p20 p21 p22 p23 p24 p25 p26 p27 : Int) (x1 : Int) : Does Tryz.prog (Gof tab) 24 [.ptr 0 0, .vsl [.int .i64 1, .int .i64 x1] 2] (AHeap.ofList (hoG1 p0 p1 p2 p3 p4 p5 p6 p7 p8 p9 p10 p11 p12 p13 p14 p15 p16 p17 p18 p19 p20 p21 p22 p23 p24 p25 p26 p27)) fun r h => r = .vsl [.int .i64 (x1)] 1 ∧ h = AHeap.ofList (hoG1 (1) (x1) (x1) (p3) (p4) (p5) (p6) (p7) (p8) (1) (x1) (x1) (p12) (p13) (p14) (p15) (p16) (p17) (p18) (p19) (x1) (x1) (p22) (p23) (p24) (p25) (p26) (p27)) :=
  tick_does (fuel := 100000) (n := 300) nmixed nplain knownW_good (by kernel_rfl) (by kernel_rfl) (fun Q => by kernel_rfl)

end Go.Proofs.YtnnlgafmpobdhaaGreatDoor

/-
  A program's machine: what it tells, tick by tick: node hold(c: bool; x: int) returns (y: int); let y = merge c (x when c) (((- 1) fby y) when not c); tel node f(c: bool; x: int) returns (y: int); let y = hold(c, x); tel
-/


namespace Go.Proofs.YtnnlgafmpobdhaaGreatDoor
open Go Go.Abs Go.RowKit
set_option maxRecDepth 100000
set_option linter.unusedVariables false
set_option linter.unusedSimpArgs false

/-- What is held behind so many ticks. -/
def hoH (c : Nat → Bool) (x : Nat → Int) : Nat → Int
  | 0 => -1
  | i + 1 => if c i then x i else hoH c x i
def hoRow (c : Nat → Bool) (x : Nat → Int) (i : Nat) : AV := .vsl [.int .i64 (if c i then 1 else 0), .int .i64 (x i)] 2
def hoOut (c : Nat → Bool) (x : Nat → Int) (i : Nat) : AV := .vsl [.int .i64 (hoH c x (i + 1))] 1
def hoI (c : Nat → Bool) (x : Nat → Int) (i : Nat) (l : List AObj) : Prop := (∃ p0 p1 p2 p3 p4 p5 p6 p7 p8 p9 p10 p11 p12 p13 p14 p15 p16 p17 p18 p19 p20 p21 : Int, l = hoG0 p0 p1 p2 p3 p4 p5 p6 p7 p8 p9 p10 p11 p12 p13 p14 p15 p16 p17 p18 p19 p20 p21 ∧ i = 0) ∨ (∃ p0 p1 p2 p3 p4 p5 p6 p7 p8 p9 p10 p11 p12 p13 p14 p15 p16 p17 p18 p19 p20 p21 p22 p23 p24 p25 p26 p27 : Int, l = hoG1 p0 p1 p2 p3 p4 p5 p6 p7 p8 p9 p10 p11 p12 p13 p14 p15 p16 p17 p18 p19 p20 p21 p22 p23 p24 p25 p26 p27 ∧ p20 = hoH c x i)
theorem homachine (c : Nat → Bool) (x : Nat → Int) (n : Nat) : ∃ g, MeanMachine (Gof tab) 47 g honodes ((List.range n).map (hoRow c x)) ((List.range n).map (hoOut c x)) := by
  refine machine_rel (B := hoB) (I := hoI c x) ngof (by decide) (.inl ⟨_, _, _, _, _, _, _, _, _, _, _, _, _, _, _, _, _, _, _, _, _, _, rfl, rfl⟩) ?_ ?_ ?_ (c0 := .str [102]) (ins := hoins) (c2 := .vsl [.str [121], .int .i64 2, .str [], .bool false, .int .i64 137] 1) (c3 := .vsl [] 0) (c4 := .vsl [.str [121], .str [99,97,108,108], .str [104,111,108,100], .int .i64 0, .int .i64 154, .vsl [.str [118,97,114], .str [99], .int .i64 0, .int .i64 159, .nilsl, .str [118,97,114], .str [120], .int .i64 0, .int .i64 162, .nilsl] 2, .int .i64 150] 1) (c5 := .int .i64 104) rfl homain_does ?_ (cn := 2) (by decide) hocount hobegun ?_
  · rintro i l (⟨p0, p1, p2, p3, p4, p5, p6, p7, p8, p9, p10, p11, p12, p13, p14, p15, p16, p17, p18, p19, p20, p21, rfl, hp⟩ | ⟨p0, p1, p2, p3, p4, p5, p6, p7, p8, p9, p10, p11, p12, p13, p14, p15, p16, p17, p18, p19, p20, p21, p22, p23, p24, p25, p26, p27, rfl, hp⟩)
    · exact ⟨holen_0 _ _ _ _ _ _ _ _ _ _ _ _ _ _ _ _ _ _ _ _ _ _, hook_0 _ _ _ _ _ _ _ _ _ _ _ _ _ _ _ _ _ _ _ _ _ _⟩
    · exact ⟨holen_1 _ _ _ _ _ _ _ _ _ _ _ _ _ _ _ _ _ _ _ _ _ _ _ _ _ _ _ _, hook_1 _ _ _ _ _ _ _ _ _ _ _ _ _ _ _ _ _ _ _ _ _ _ _ _ _ _ _ _⟩
  · intro i _
    exact ⟨rfl, fun _ => rfl⟩
  · intro i _
    exact ⟨rfl, rfl, fun _ => rfl⟩
  · intro i _ H
    by_cases hc : c i = true
    · rw [show hoRow c x i = .vsl [.int .i64 1, .int .i64 (x i)] 2 by simp [hoRow, hc]]
      exact hofits_1i (x i) H
    · rw [show hoRow c x i = .vsl [.int .i64 0, .int .i64 (x i)] 2 by simp [hoRow, hc]]
      exact hofits_0i (x i) H
  · rintro i l hin (⟨p0, p1, p2, p3, p4, p5, p6, p7, p8, p9, p10, p11, p12, p13, p14, p15, p16, p17, p18, p19, p20, p21, rfl, hp⟩ | ⟨p0, p1, p2, p3, p4, p5, p6, p7, p8, p9, p10, p11, p12, p13, p14, p15, p16, p17, p18, p19, p20, p21, p22, p23, p24, p25, p26, p27, rfl, hp⟩)
    · by_cases hc : c i = true
      · rw [show hoRow c x i = .vsl [.int .i64 1, .int .i64 (x i)] 2 by simp [hoRow, hc]]
        refine ⟨_, .inr (⟨_, _, _, _, _, _, _, _, _, _, _, _, _, _, _, _, _, _, _, _, _, _, _, _, _, _, _, _, rfl, ?_⟩), (hotick_0_1i _ _ _ _ _ _ _ _ _ _ _ _ _ _ _ _ _ _ _ _ _ _ (x i)).mono fun r h ⟨e1, e2⟩ => ⟨e1.trans ?_, e2⟩⟩
        · simp [hoH, hc]
        · simp [hoOut, hoH, hc]
      · rw [show hoRow c x i = .vsl [.int .i64 0, .int .i64 (x i)] 2 by simp [hoRow, hc]]
        refine ⟨_, .inr (⟨_, _, _, _, _, _, _, _, _, _, _, _, _, _, _, _, _, _, _, _, _, _, _, _, _, _, _, _, rfl, ?_⟩), (hotick_0_0i _ _ _ _ _ _ _ _ _ _ _ _ _ _ _ _ _ _ _ _ _ _ (x i)).mono fun r h ⟨e1, e2⟩ => ⟨e1.trans ?_, e2⟩⟩
        · subst hp; simp [hoH, hc]
        · subst hp; simp [hoOut, hoH, hc]
    · by_cases hc : c i = true
      · rw [show hoRow c x i = .vsl [.int .i64 1, .int .i64 (x i)] 2 by simp [hoRow, hc]]
        refine ⟨_, .inr (⟨_, _, _, _, _, _, _, _, _, _, _, _, _, _, _, _, _, _, _, _, _, _, _, _, _, _, _, _, rfl, ?_⟩), (hotick_1_1i _ _ _ _ _ _ _ _ _ _ _ _ _ _ _ _ _ _ _ _ _ _ _ _ _ _ _ _ (x i)).mono fun r h ⟨e1, e2⟩ => ⟨e1.trans ?_, e2⟩⟩
        · simp [hoH, hc]
        · simp [hoOut, hoH, hc]
      · rw [show hoRow c x i = .vsl [.int .i64 0, .int .i64 (x i)] 2 by simp [hoRow, hc]]
        refine ⟨_, .inr (⟨_, _, _, _, _, _, _, _, _, _, _, _, _, _, _, _, _, _, _, _, _, _, _, _, _, _, _, _, rfl, ?_⟩), (hotick_1_0i _ _ _ _ _ _ _ _ _ _ _ _ _ _ _ _ _ _ _ _ _ _ _ _ _ _ _ _ (x i)).mono fun r h ⟨e1, e2⟩ => ⟨e1.trans ?_, e2⟩⟩
        · simp [hoH, hc, hp]
        · simp [hoOut, hoH, hc, hp]
end Go.Proofs.YtnnlgafmpobdhaaGreatDoor

/-
  MeanHolds: a value that is taken when a name is so, and held till it is so again.
-/


namespace Go.Proofs.YtnnlgafmpobdhaaGreatDoor
open Go Go.Abs Go.Lex Go.RowKit
set_option maxRecDepth 100000
set_option linter.unusedVariables false
set_option linter.unusedSimpArgs false

def hoIn (c : Nat → Bool) (x : Nat → Int) (k : Nat) : List Int := [if c k then 1 else 0, x k]
def hoWant (c : Nat → Bool) (x : Nat → Int) (k : Nat) : List Int := [hoH c x (k + 1)]

set_option maxHeartbeats 4000000 in
theorem holaw_run (c : Nat → Bool) (x : Nat → Int) (n m : Nat) (a0 a1 : AV) (h0 : Arr (fun k => .bool (c k)) n a0) (h1 : Arr (fun k => .int .i64 (x k)) m a1) (H : AHeap) :
    Does Tryz.prog (Gof tab) 6 [a0, a1] H fun r _ => r = .bool true := by
  refine Does.wf Tryz.call6 fun hw _ => ?_
  have e0 := alen_bools h0
  have e1 := alen_ints h1
  refine does_f Tryz.call6 Tryz.func6 rfl (by simp [Tryz.f6]) ?_
  simp
  refine does_use (awake12 _) ?_
  rintro _ HX ⟨rfl, hHX⟩
  rw [hHX]
  clear hHX HX
  simp [e0, e1, -alen]
  by_cases hn : 40 < n
  · have : (40 : Int) < n := by omega
    simp [this, e0, e1, -alen]
  have hn' : ¬ ((40 : Int) < n) := by omega
  by_cases hm : m = n
  case neg =>
    have : ((m : Int) != n) = true := by simp; omega
    simp [hn', this, e0, e1, -alen]
  subst hm
  simp [hn', e0, e1, -alen]
  refine aws_loops (fun k T' H' => ∃ i : Nat, i + k = m ∧ T' 0 = a0 ∧ T' 1 = a1 ∧ T' 8 = .int .i64 i ∧ T' 7 = .int .i64 (hoH c x i) ∧ Rows2 H H' (T' 5) (T' 6) (hoIn c x) 2 (hoWant c x) 1 i) m ?_ ?_
  · exact ⟨0, by simp, by simp, by simp, by simp, by simp [hoH], by simpa using Rows2.init H _ _ _ _⟩
  rintro k T H1 ⟨i, hik, t0, t1, t8, t7, hR⟩ hw1 _
  by_cases hi : i < m
  · have hii : (i : Int) < m := by omega
    have p0 := arr_pos h0 (by omega)
    have p1 := arr_pos h1 (by omega)
    have q0 := at_range (f := fun k => AV.bool (c k)) hi
    have q1 := at_range (f := fun k => AV.int .i64 (x k)) hi
    rw [p0] at t0 e0
    rw [p1] at t1 e1
    refine aws_f ?_
    have wr : IntKind.i64.wrap ((i : Int) + 1) = ((i + 1 : Nat) : Int) := by rw [IntWalk.i64_in _ (by omega)]; omega
    by_cases hi0 : i = 0
    · subst hi0
      obtain ⟨t5, t6⟩ := hR.zero
      have hcs : (c 0 = false) ∨ (c 0 = true) := by cases c 0 <;> simp
      rcases hcs with hc | hc
      · simp [t0, t1, t8, t7, t5, t6, e0, e1, hi, hii, q0, q1, hc, -alen]
        exact ⟨k - 1, by omega, 1, by omega, p0.symm, p1.symm, wr, by simp [hoH, hc], hR.first hw (by simp [ri, hoIn, hc]) (by simp [ri, hoWant, hoH, hc])⟩
      · simp [t0, t1, t8, t7, t5, t6, e0, e1, hi, hii, q0, q1, hc, -alen]
        refine aw_still mixedOrders (by kernel_rfl) ?_
        intro es hes
        simp [t0, t1, t8, t7, t5, t6, e0, e1, hi, hii, q0, q1, hc, -alen]
        subst hes
        exact ⟨by kernel_rfl, k - 1, by omega, 1, by omega, p0.symm, p1.symm, wr, by simp [hoH, hc], hR.first hw (by simp [ri, hoIn, hc]) (by simp [ri, hoWant, hoH, hc])⟩
    · obtain ⟨b1, b2, ρ1, ρ2, t5, t6, hg1, hg2, hb1l, hb2l, n8, hR'⟩ := hR.more (by omega) hw
      have n1 : b1 ≠ H1.next := by omega
      have n2 : b1 ≠ H1.next + 1 := by omega
      have n3 : b2 ≠ H1.next := by omega
      have n4 : b2 ≠ H1.next + 1 := by omega
      have n5 : b2 ≠ H1.next + 1 + 1 := by omega
      have n6 : b2 ≠ H1.next + 1 + 1 + 1 := by omega
      have n7 : b2 ≠ H1.next + 1 + 1 + 1 + 1 := by omega
      have hgrow : ¬ (i + 1 ≤ i) := by omega
      have g3 : (i + 1) * 24 ≤ 140737488355328 := by omega
      have g4 : i ≤ 4611686018427387903 := by omega
      have k1 : List.take i (List.map (fun k => AV.sl (ρ1 k) 0 1 2 2 false) (List.range i)) = List.map (fun k => AV.sl (ρ1 k) 0 1 2 2 false) (List.range i) := List.take_of_length_le (by simp)
      have k2 : List.take i (List.map (fun k => AV.sl (ρ2 k) 0 1 1 1 false) (List.range i)) = List.map (fun k => AV.sl (ρ2 k) 0 1 1 1 false) (List.range i) := List.take_of_length_le (by simp)
      have hcs : (c i = false) ∨ (c i = true) := by cases c i <;> simp
      rcases hcs with hc | hc
      · simp [t0, t1, t8, t7, t5, t6, e0, e1, hi, hii, q0, q1, hc, hg1, hg2, n1, n2, n3, n4, n5, n6, n7, n8, hgrow, g3, g4, k1, k2, -alen, -List.map_take]
        exact ⟨k - 1, by omega, i + 1, by omega, p0.symm, p1.symm, wr, by simp [hoH, hc], hR' _ _ (by simp [ri, hoIn, hc]) (by simp [ri, hoWant, hoH, hc])⟩
      · simp [t0, t1, t8, t7, t5, t6, e0, e1, hi, hii, q0, q1, hc, hg1, hg2, n1, n2, n3, n4, n5, n6, n7, n8, hgrow, g3, g4, k1, k2, -alen, -List.map_take]
        refine aw_still mixedOrders (by kernel_rfl) ?_
        intro es hes
        simp [t0, t1, t8, t7, t5, t6, e0, e1, hi, hii, q0, q1, hc, hg1, hg2, n1, n2, n3, n4, n5, n6, n7, n8, hgrow, g3, g4, k1, k2, -alen, -List.map_take]
        subst hes
        exact ⟨by kernel_rfl, k - 1, by omega, i + 1, by omega, p0.symm, p1.symm, wr, by simp [hoH, hc], hR' _ _ (by simp [ri, hoIn, hc]) (by simp [ri, hoWant, hoH, hc])⟩
  · obtain rfl : i = m := by omega
    refine aws_two 5 6 hw hR (fun _ => rfl) (fun _ => rfl) fun T2 f5 f6 ft => aws_f ?_
    have u0 : T2 0 = a0 := (ft 0 (by decide) (by decide)).trans t0
    have u8 : T2 8 = .int .i64 (i : Nat) := (ft 8 (by decide) (by decide)).trans t8
    simp [u0, u8, f5, f6, e0, e1, -alen]
    obtain ⟨g, M⟩ := homachine c x i
    have ho := fun H => all_true (G := Gof tab) ((List.range i).map (hoWant c x)) (by simp; omega) (fun l hl => by
      obtain ⟨k, _, rfl⟩ := List.mem_map.1 hl
      exact Nat.lt_of_le_of_lt (Nat.le_of_eq rfl : (hoWant c x k).length ≤ 1) (by decide)) H
    rw [← rows_outs (out := hoOut c x) (fun _ => rfl)] at ho
    have hsc : (rowsV ((List.range i).map (hoOut c x))).scalar = true := by unfold rowsV; split <;> rfl
    refine does_use (m_text M (by decide) (by simp; omega) hocheck _) ?_
    rintro _ HX ⟨rfl, hHX⟩
    rw [hHX]
    clear hHX HX
    simp [u0, u8, f5, f6, e0, e1, hsc, -alen]
    refine does_use (ho _) ?_
    rintro _ HX ⟨rfl, hHX⟩
    rw [hHX]
    clear hHX HX
    simp

theorem holaw_any (H : AHeap) (a0 : AV) (a1 : AV) (s0 : Shp Tryz.prog 8 36 [a0]) (s1 : Shp Tryz.prog 8 30 [a1]) : Does Tryz.prog (Gof tab) 6 [a0, a1] H fun r _ => r = .bool true := by
  obtain ⟨n0, c0, _, h0⟩ := shp_bools Tryz.underlying36 Tryz.underlying4 s0
  obtain ⟨n1, c1, _, _, h1⟩ := shp_ints Tryz.underlying30 Tryz.underlying2 s1
  exact holaw_run c0 c1 n0 n1 a0 a1 h0 h1 H
end Go.Proofs.YtnnlgafmpobdhaaGreatDoor
