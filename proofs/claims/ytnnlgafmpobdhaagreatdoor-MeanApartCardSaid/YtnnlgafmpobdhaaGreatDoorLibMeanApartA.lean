/-
  Own library of this claim, part 5: texts one behind the other (MnAp, MnApM, MnApL).
-/
import Derived.Test.YtnnlgafmpobdhaaGreatDoorLibD

/-
  A program's machine, known by the evaluator: node sum(x: int) returns (y: int); let y = x + (0 fby y); tel node f(x, y: int) returns (a, b, c: int); let c = sum(x) - sum(y); a = sum(x); b = sum(y); tel
-/

namespace Go.Proofs.YtnnlgafmpobdhaaGreatDoor
open Go Go.Abs Go.RowKit
set_option maxRecDepth 100000
set_option linter.unusedVariables false

def aptext : List UInt8 := [110,111,100,101,32,115,117,109,40,120,58,32,105,110,116,41,32,114,101,116,117,114,110,115,32,40,121,58,32,105,110,116,41,59,32,108,101,116,32,121,32,61,32,120,32,43,32,40,48,32,102,98,121,32,121,41,59,32,116,101,108,32,110,111,100,101,32,102,40,120,44,32,121,58,32,105,110,116,41,32,114,101,116,117,114,110,115,32,40,97,44,32,98,44,32,99,58,32,105,110,116,41,59,32,108,101,116,32,99,32,61,32,115,117,109,40,120,41,32,45,32,115,117,109,40,121,41,59,32,97,32,61,32,115,117,109,40,120,41,59,32,98,32,61,32,115,117,109,40,121,41,59,32,116,101,108]
def apcells : List AV := [.str [115,117,109], .vsl [.str [120], .int .i64 2, .str [], .bool false, .int .i64 9] 1, .vsl [.str [121], .int .i64 2, .str [], .bool false, .int .i64 26] 1, .nilsl, .vsl [.str [121], .str [43], .str [], .int .i64 0, .int .i64 45, .vsl [.str [118,97,114], .str [120], .int .i64 0, .int .i64 43, .nilsl, .str [102,98,121], .str [], .int .i64 0, .int .i64 50, .vsl [.str [105,110,116], .str [], .int .i64 0, .int .i64 48, .nilsl, .str [118,97,114], .str [121], .int .i64 0, .int .i64 54, .nilsl] 2] 2, .int .i64 39] 1, .int .i64 0, .str [102], .vsl [.str [120], .int .i64 2, .str [], .bool false, .int .i64 69, .str [121], .int .i64 2, .str [], .bool false, .int .i64 72] 2, .vsl [.str [97], .int .i64 2, .str [], .bool false, .int .i64 89, .str [98], .int .i64 2, .str [], .bool false, .int .i64 92, .str [99], .int .i64 2, .str [], .bool false, .int .i64 95] 3, .nilsl, .vsl [.str [99], .str [45], .str [], .int .i64 0, .int .i64 119, .vsl [.str [99,97,108,108], .str [115,117,109], .int .i64 0, .int .i64 112, .vsl [.str [118,97,114], .str [120], .int .i64 0, .int .i64 116, .nilsl] 1, .str [99,97,108,108], .str [115,117,109], .int .i64 0, .int .i64 121, .vsl [.str [118,97,114], .str [121], .int .i64 0, .int .i64 125, .nilsl] 1] 2, .int .i64 108, .str [97], .str [99,97,108,108], .str [115,117,109], .int .i64 0, .int .i64 133, .vsl [.str [118,97,114], .str [120], .int .i64 0, .int .i64 137, .nilsl] 1, .int .i64 129, .str [98], .str [99,97,108,108], .str [115,117,109], .int .i64 0, .int .i64 145, .vsl [.str [118,97,114], .str [121], .int .i64 0, .int .i64 149, .nilsl] 1, .int .i64 141] 3, .int .i64 62]
def apnodes : AV := .vsl apcells 2
def apok : AV := .agg [.int .i64 0, .int .i64 0]
def aplit : AV := .tuple [apnodes, apok]
def apins : AV := .vsl [.str [120], .int .i64 2, .str [], .bool false, .int .i64 69, .str [121], .int .i64 2, .str [], .bool false, .int .i64 72] 2
def apmain : AV := .agg [.str [102], apins, .vsl [.str [97], .int .i64 2, .str [], .bool false, .int .i64 89, .str [98], .int .i64 2, .str [], .bool false, .int .i64 92, .str [99], .int .i64 2, .str [], .bool false, .int .i64 95] 3, .vsl [] 0, .vsl [.str [99], .str [45], .str [], .int .i64 0, .int .i64 119, .vsl [.str [99,97,108,108], .str [115,117,109], .int .i64 0, .int .i64 112, .vsl [.str [118,97,114], .str [120], .int .i64 0, .int .i64 116, .nilsl] 1, .str [99,97,108,108], .str [115,117,109], .int .i64 0, .int .i64 121, .vsl [.str [118,97,114], .str [121], .int .i64 0, .int .i64 125, .nilsl] 1] 2, .int .i64 108, .str [97], .str [99,97,108,108], .str [115,117,109], .int .i64 0, .int .i64 133, .vsl [.str [118,97,114], .str [120], .int .i64 0, .int .i64 137, .nilsl] 1, .int .i64 129, .str [98], .str [99,97,108,108], .str [115,117,109], .int .i64 0, .int .i64 145, .vsl [.str [118,97,114], .str [121], .int .i64 0, .int .i64 149, .nilsl] 1, .int .i64 141] 3, .int .i64 62]
theorem apparse_run : fcall knownW Tryz.prog (Gof tab) 100000 300 18 [.str aptext] FH.empty (litK aplit) = true := by kernel_rfl
theorem apparse (H : AHeap) : Does Tryz.prog (Gof tab) 18 [.str aptext] H fun r h => r = aplit ∧ h = H :=
  lit_does nmixed nplain knownW_good ngof (by kernel_rfl) (by kernel_rfl) apparse_run H
theorem aptree_run : fcall knownW Tryz.prog (Gof tab) 100000 300 19 [apnodes] FH.empty (litK apok) = true := by kernel_rfl
theorem aptree (H : AHeap) : Does Tryz.prog (Gof tab) 19 [apnodes] H fun r h => r = apok ∧ h = H :=
  lit_does nmixed nplain knownW_good ngof (by kernel_rfl) (by kernel_rfl) aptree_run H
noncomputable def apknown : Ov := ovAdd 18 (litOv [([.str aptext], aplit)]) (ovAdd 19 (litOv [([apnodes], apok)]) knownW)
theorem apknown_good : OvGoodK Tryz.prog (Gof tab) apknown := ovAdd_good (litOv_good fun e he H => by
  simp only [List.mem_cons, List.not_mem_nil, or_false] at he
  subst he
  exact apparse H) (ovAdd_good (litOv_good fun e he H => by
  simp only [List.mem_cons, List.not_mem_nil, or_false] at he
  subst he
  exact aptree H) knownW_good)
theorem apcheck_run : fcall apknown Tryz.prog (Gof tab) 100000 300 15 [.str aptext] FH.empty (litK aplit) = true := by kernel_rfl
theorem apcheck (H : AHeap) : Does Tryz.prog (Gof tab) 15 [.str aptext] H fun r h => r = aplit ∧ h = H :=
  lit_does nmixed nplain apknown_good ngof (by kernel_rfl) (by kernel_rfl) apcheck_run H
theorem apmain_run : fcall knownW Tryz.prog (Gof tab) 100000 300 20 [apnodes] FH.empty (litK apmain) = true := by kernel_rfl
theorem apmain_does (H : AHeap) : Does Tryz.prog (Gof tab) 20 [apnodes] H fun r h => r = apmain ∧ h = H :=
  lit_does nmixed nplain knownW_good ngof (by kernel_rfl) (by kernel_rfl) apmain_run H
theorem apcount_run : fcall knownW Tryz.prog (Gof tab) 100000 300 22 [apnodes] FH.empty (litK (.int .i64 7)) = true := by kernel_rfl
theorem apcount (H : AHeap) : Does Tryz.prog (Gof tab) 22 [apnodes] H fun r h => r = .int .i64 7 ∧ h = H :=
  lit_does nmixed nplain knownW_good ngof (by kernel_rfl) (by kernel_rfl) apcount_run H

def apG0 (p0 p1 p2 p3 p4 p5 p6 p7 p8 p9 p10 p11 p12 p13 p14 p15 p16 p17 p18 p19 p20 p21 p22 p23 p24 p25 p26 p27 p28 p29 p30 p31 p32 p33 p34 p35 p36 p37 p38 p39 p40 p41 p42 p43 p44 p45 p46 p47 p48 p49 p50 p51 p52 p53 p54 p55 p56 p57 : Int) : List AObj := [
  .cells [.str [102], .sl 1 0 5 2 2 true, .sl 2 0 5 3 3 true, .sl 3 0 5 0 0 false, .sl 4 0 7 3 3 true, .int .i64 62, .sl 5 0 1 3 3 true, .map 6, .map 7, .nilsl],
  .cells [.str [120], .int .i64 2, .str [], .bool false, .int .i64 69, .str [121], .int .i64 2, .str [], .bool false, .int .i64 72],
  .cells [.str [97], .int .i64 2, .str [], .bool false, .int .i64 89, .str [98], .int .i64 2, .str [], .bool false, .int .i64 92, .str [99], .int .i64 2, .str [], .bool false, .int .i64 95],
  .cells [],
  .cells [.str [99], .str [45], .str [], .int .i64 0, .int .i64 119, .sl 8 0 5 2 2 true, .int .i64 108, .str [97], .str [99,97,108,108], .str [115,117,109], .int .i64 0, .int .i64 133, .sl 9 0 5 1 1 true, .int .i64 129, .str [98], .str [99,97,108,108], .str [115,117,109], .int .i64 0, .int .i64 145, .sl 10 0 5 1 1 true, .int .i64 141],
  .cells [.str [97], .str [98], .str [99]],
  .map [(.str [99], .ptr 11 0), (.str [97], .ptr 12 0), (.str [98], .ptr 13 0)],
  .map [],
  .cells [.str [99,97,108,108], .str [115,117,109], .int .i64 0, .int .i64 112, .sl 14 0 5 1 1 true, .str [99,97,108,108], .str [115,117,109], .int .i64 0, .int .i64 121, .sl 15 0 5 1 1 true],
  .cells [.str [118,97,114], .str [120], .int .i64 0, .int .i64 137, .nilsl],
  .cells [.str [118,97,114], .str [121], .int .i64 0, .int .i64 149, .nilsl],
  .cells [.str [45], .str [], .int .i64 0, .int .i64 119, .nilsl, .nilsl, .sl 16 0 8 2 2 true, .bool false, .sl 17 0 1 2 2 true, .nilptr, .bool false, .int .i64 p0, .int .i64 p1],
  .cells [.str [99,97,108,108], .str [115,117,109], .int .i64 0, .int .i64 133, .nilsl, .nilsl, .sl 18 0 8 1 1 true, .bool false, .sl 19 0 1 1 1 true, .ptr 20 0, .bool false, .int .i64 p2, .int .i64 p3],
  .cells [.str [99,97,108,108], .str [115,117,109], .int .i64 0, .int .i64 145, .nilsl, .nilsl, .sl 21 0 8 1 1 true, .bool false, .sl 22 0 1 1 1 true, .ptr 23 0, .bool false, .int .i64 p4, .int .i64 p5],
  .cells [.str [118,97,114], .str [120], .int .i64 0, .int .i64 116, .nilsl],
  .cells [.str [118,97,114], .str [121], .int .i64 0, .int .i64 125, .nilsl],
  .cells [.str [99,97,108,108], .str [115,117,109], .int .i64 0, .int .i64 112, .nilsl, .nilsl, .sl 24 0 8 1 1 true, .bool false, .str [99,97,108,108], .str [115,117,109], .int .i64 0, .int .i64 121, .nilsl, .nilsl, .sl 25 0 8 1 1 true, .bool false],
  .cells [.ptr 26 0, .ptr 27 0],
  .cells [.str [118,97,114], .str [120], .int .i64 0, .int .i64 137, .nilsl, .nilsl, .nilsl, .bool false],
  .cells [.ptr 28 0],
  .cells [.str [115,117,109], .sl 29 0 5 1 1 true, .sl 30 0 5 1 1 true, .sl 31 0 5 0 0 false, .sl 32 0 7 1 1 true, .int .i64 0, .sl 33 0 1 1 1 true, .map 34, .map 35, .nilsl],
  .cells [.str [118,97,114], .str [121], .int .i64 0, .int .i64 149, .nilsl, .nilsl, .nilsl, .bool false],
  .cells [.ptr 36 0],
  .cells [.str [115,117,109], .sl 37 0 5 1 1 true, .sl 38 0 5 1 1 true, .sl 39 0 5 0 0 false, .sl 40 0 7 1 1 true, .int .i64 0, .sl 41 0 1 1 1 true, .map 42, .map 43, .nilsl],
  .cells [.str [118,97,114], .str [120], .int .i64 0, .int .i64 116, .nilsl, .nilsl, .nilsl, .bool false],
  .cells [.str [118,97,114], .str [121], .int .i64 0, .int .i64 125, .nilsl, .nilsl, .nilsl, .bool false],
  .cells [.str [99,97,108,108], .str [115,117,109], .int .i64 0, .int .i64 112, .nilsl, .nilsl, .sl 24 0 8 1 1 true, .bool false, .sl 44 0 1 1 1 true, .ptr 45 0, .bool false, .int .i64 p6, .int .i64 p7],
  .cells [.str [99,97,108,108], .str [115,117,109], .int .i64 0, .int .i64 121, .nilsl, .nilsl, .sl 25 0 8 1 1 true, .bool false, .sl 46 0 1 1 1 true, .ptr 47 0, .bool false, .int .i64 p8, .int .i64 p9],
  .cells [.str [118,97,114], .str [120], .int .i64 0, .int .i64 137, .nilsl, .nilsl, .nilsl, .bool false, .nilsl, .nilptr, .bool false, .int .i64 p10, .int .i64 p11],
  .cells [.str [120], .int .i64 2, .str [], .bool false, .int .i64 9],
  .cells [.str [121], .int .i64 2, .str [], .bool false, .int .i64 26],
  .cells [],
  .cells [.str [121], .str [43], .str [], .int .i64 0, .int .i64 45, .sl 48 0 5 2 2 true, .int .i64 39],
  .cells [.str [121]],
  .map [(.str [121], .ptr 49 0)],
  .map [],
  .cells [.str [118,97,114], .str [121], .int .i64 0, .int .i64 149, .nilsl, .nilsl, .nilsl, .bool false, .nilsl, .nilptr, .bool false, .int .i64 p12, .int .i64 p13],
  .cells [.str [120], .int .i64 2, .str [], .bool false, .int .i64 9],
  .cells [.str [121], .int .i64 2, .str [], .bool false, .int .i64 26],
  .cells [],
  .cells [.str [121], .str [43], .str [], .int .i64 0, .int .i64 45, .sl 50 0 5 2 2 true, .int .i64 39],
  .cells [.str [121]],
  .map [(.str [121], .ptr 51 0)],
  .map [],
  .cells [.ptr 52 0],
  .cells [.str [115,117,109], .sl 53 0 5 1 1 true, .sl 54 0 5 1 1 true, .sl 55 0 5 0 0 false, .sl 56 0 7 1 1 true, .int .i64 0, .sl 57 0 1 1 1 true, .map 58, .map 59, .nilsl],
  .cells [.ptr 60 0],
  .cells [.str [115,117,109], .sl 61 0 5 1 1 true, .sl 62 0 5 1 1 true, .sl 63 0 5 0 0 false, .sl 64 0 7 1 1 true, .int .i64 0, .sl 65 0 1 1 1 true, .map 66, .map 67, .nilsl],
  .cells [.str [118,97,114], .str [120], .int .i64 0, .int .i64 43, .nilsl, .str [102,98,121], .str [], .int .i64 0, .int .i64 50, .sl 68 0 5 2 2 true],
  .cells [.str [43], .str [], .int .i64 0, .int .i64 45, .nilsl, .nilsl, .sl 69 0 8 2 2 true, .bool false, .sl 70 0 1 2 2 true, .nilptr, .bool false, .int .i64 p14, .int .i64 p15],
  .cells [.str [118,97,114], .str [120], .int .i64 0, .int .i64 43, .nilsl, .str [102,98,121], .str [], .int .i64 0, .int .i64 50, .sl 71 0 5 2 2 true],
  .cells [.str [43], .str [], .int .i64 0, .int .i64 45, .nilsl, .nilsl, .sl 72 0 8 2 2 true, .bool false, .sl 73 0 1 2 2 true, .nilptr, .bool false, .int .i64 p16, .int .i64 p17],
  .cells [.str [118,97,114], .str [120], .int .i64 0, .int .i64 116, .nilsl, .nilsl, .nilsl, .bool false, .nilsl, .nilptr, .bool false, .int .i64 p18, .int .i64 p19],
  .cells [.str [120], .int .i64 2, .str [], .bool false, .int .i64 9],
  .cells [.str [121], .int .i64 2, .str [], .bool false, .int .i64 26],
  .cells [],
  .cells [.str [121], .str [43], .str [], .int .i64 0, .int .i64 45, .sl 74 0 5 2 2 true, .int .i64 39],
  .cells [.str [121]],
  .map [(.str [121], .ptr 75 0)],
  .map [],
  .cells [.str [118,97,114], .str [121], .int .i64 0, .int .i64 125, .nilsl, .nilsl, .nilsl, .bool false, .nilsl, .nilptr, .bool false, .int .i64 p20, .int .i64 p21],
  .cells [.str [120], .int .i64 2, .str [], .bool false, .int .i64 9],
  .cells [.str [121], .int .i64 2, .str [], .bool false, .int .i64 26],
  .cells [],
  .cells [.str [121], .str [43], .str [], .int .i64 0, .int .i64 45, .sl 76 0 5 2 2 true, .int .i64 39],
  .cells [.str [121]],
  .map [(.str [121], .ptr 77 0)],
  .map [],
  .cells [.str [105,110,116], .str [], .int .i64 0, .int .i64 48, .nilsl, .str [118,97,114], .str [121], .int .i64 0, .int .i64 54, .nilsl],
  .cells [.str [118,97,114], .str [120], .int .i64 0, .int .i64 43, .nilsl, .nilsl, .nilsl, .bool false, .str [102,98,121], .str [], .int .i64 0, .int .i64 50, .nilsl, .nilsl, .sl 78 0 8 2 2 true, .bool false],
  .cells [.ptr 79 0, .ptr 80 0],
  .cells [.str [105,110,116], .str [], .int .i64 0, .int .i64 48, .nilsl, .str [118,97,114], .str [121], .int .i64 0, .int .i64 54, .nilsl],
  .cells [.str [118,97,114], .str [120], .int .i64 0, .int .i64 43, .nilsl, .nilsl, .nilsl, .bool false, .str [102,98,121], .str [], .int .i64 0, .int .i64 50, .nilsl, .nilsl, .sl 81 0 8 2 2 true, .bool false],
  .cells [.ptr 82 0, .ptr 83 0],
  .cells [.str [118,97,114], .str [120], .int .i64 0, .int .i64 43, .nilsl, .str [102,98,121], .str [], .int .i64 0, .int .i64 50, .sl 84 0 5 2 2 true],
  .cells [.str [43], .str [], .int .i64 0, .int .i64 45, .nilsl, .nilsl, .sl 85 0 8 2 2 true, .bool false, .sl 86 0 1 2 2 true, .nilptr, .bool false, .int .i64 p22, .int .i64 p23],
  .cells [.str [118,97,114], .str [120], .int .i64 0, .int .i64 43, .nilsl, .str [102,98,121], .str [], .int .i64 0, .int .i64 50, .sl 87 0 5 2 2 true],
  .cells [.str [43], .str [], .int .i64 0, .int .i64 45, .nilsl, .nilsl, .sl 88 0 8 2 2 true, .bool false, .sl 89 0 1 2 2 true, .nilptr, .bool false, .int .i64 p24, .int .i64 p25],
  .cells [.str [105,110,116], .str [], .int .i64 0, .int .i64 48, .nilsl, .nilsl, .nilsl, .bool true, .str [118,97,114], .str [121], .int .i64 0, .int .i64 54, .nilsl, .nilsl, .nilsl, .bool false],
  .cells [.str [118,97,114], .str [120], .int .i64 0, .int .i64 43, .nilsl, .nilsl, .nilsl, .bool false, .nilsl, .nilptr, .bool false, .int .i64 p26, .int .i64 p27],
  .cells [.str [102,98,121], .str [], .int .i64 0, .int .i64 50, .nilsl, .nilsl, .sl 78 0 8 2 2 true, .bool false, .sl 90 0 1 2 2 true, .nilptr, .bool false, .int .i64 p28, .int .i64 p29],
  .cells [.str [105,110,116], .str [], .int .i64 0, .int .i64 48, .nilsl, .nilsl, .nilsl, .bool true, .str [118,97,114], .str [121], .int .i64 0, .int .i64 54, .nilsl, .nilsl, .nilsl, .bool false],
  .cells [.str [118,97,114], .str [120], .int .i64 0, .int .i64 43, .nilsl, .nilsl, .nilsl, .bool false, .nilsl, .nilptr, .bool false, .int .i64 p30, .int .i64 p31],
  .cells [.str [102,98,121], .str [], .int .i64 0, .int .i64 50, .nilsl, .nilsl, .sl 81 0 8 2 2 true, .bool false, .sl 91 0 1 2 2 true, .nilptr, .bool false, .int .i64 p32, .int .i64 p33],
  .cells [.str [105,110,116], .str [], .int .i64 0, .int .i64 48, .nilsl, .str [118,97,114], .str [121], .int .i64 0, .int .i64 54, .nilsl],
  .cells [.str [118,97,114], .str [120], .int .i64 0, .int .i64 43, .nilsl, .nilsl, .nilsl, .bool false, .str [102,98,121], .str [], .int .i64 0, .int .i64 50, .nilsl, .nilsl, .sl 92 0 8 2 2 true, .bool false],
  .cells [.ptr 93 0, .ptr 94 0],
  .cells [.str [105,110,116], .str [], .int .i64 0, .int .i64 48, .nilsl, .str [118,97,114], .str [121], .int .i64 0, .int .i64 54, .nilsl],
  .cells [.str [118,97,114], .str [120], .int .i64 0, .int .i64 43, .nilsl, .nilsl, .nilsl, .bool false, .str [102,98,121], .str [], .int .i64 0, .int .i64 50, .nilsl, .nilsl, .sl 95 0 8 2 2 true, .bool false],
  .cells [.ptr 96 0, .ptr 97 0],
  .cells [.ptr 98 0, .ptr 99 0],
  .cells [.ptr 100 0, .ptr 101 0],
  .cells [.str [105,110,116], .str [], .int .i64 0, .int .i64 48, .nilsl, .nilsl, .nilsl, .bool true, .str [118,97,114], .str [121], .int .i64 0, .int .i64 54, .nilsl, .nilsl, .nilsl, .bool false],
  .cells [.str [118,97,114], .str [120], .int .i64 0, .int .i64 43, .nilsl, .nilsl, .nilsl, .bool false, .nilsl, .nilptr, .bool false, .int .i64 p34, .int .i64 p35],
  .cells [.str [102,98,121], .str [], .int .i64 0, .int .i64 50, .nilsl, .nilsl, .sl 92 0 8 2 2 true, .bool false, .sl 102 0 1 2 2 true, .nilptr, .bool false, .int .i64 p36, .int .i64 p37],
  .cells [.str [105,110,116], .str [], .int .i64 0, .int .i64 48, .nilsl, .nilsl, .nilsl, .bool true, .str [118,97,114], .str [121], .int .i64 0, .int .i64 54, .nilsl, .nilsl, .nilsl, .bool false],
  .cells [.str [118,97,114], .str [120], .int .i64 0, .int .i64 43, .nilsl, .nilsl, .nilsl, .bool false, .nilsl, .nilptr, .bool false, .int .i64 p38, .int .i64 p39],
  .cells [.str [102,98,121], .str [], .int .i64 0, .int .i64 50, .nilsl, .nilsl, .sl 95 0 8 2 2 true, .bool false, .sl 103 0 1 2 2 true, .nilptr, .bool false, .int .i64 p40, .int .i64 p41],
  .cells [.str [105,110,116], .str [], .int .i64 0, .int .i64 48, .nilsl, .nilsl, .nilsl, .bool true, .nilsl, .nilptr, .bool false, .int .i64 p42, .int .i64 p43],
  .cells [.str [118,97,114], .str [121], .int .i64 0, .int .i64 54, .nilsl, .nilsl, .nilsl, .bool false, .nilsl, .nilptr, .bool false, .int .i64 p44, .int .i64 p45],
  .cells [.str [105,110,116], .str [], .int .i64 0, .int .i64 48, .nilsl, .nilsl, .nilsl, .bool true, .nilsl, .nilptr, .bool false, .int .i64 p46, .int .i64 p47],
  .cells [.str [118,97,114], .str [121], .int .i64 0, .int .i64 54, .nilsl, .nilsl, .nilsl, .bool false, .nilsl, .nilptr, .bool false, .int .i64 p48, .int .i64 p49],
  .cells [.ptr 104 0, .ptr 105 0],
  .cells [.ptr 106 0, .ptr 107 0],
  .cells [.str [105,110,116], .str [], .int .i64 0, .int .i64 48, .nilsl, .nilsl, .nilsl, .bool true, .nilsl, .nilptr, .bool false, .int .i64 p50, .int .i64 p51],
  .cells [.str [118,97,114], .str [121], .int .i64 0, .int .i64 54, .nilsl, .nilsl, .nilsl, .bool false, .nilsl, .nilptr, .bool false, .int .i64 p52, .int .i64 p53],
  .cells [.str [105,110,116], .str [], .int .i64 0, .int .i64 48, .nilsl, .nilsl, .nilsl, .bool true, .nilsl, .nilptr, .bool false, .int .i64 p54, .int .i64 p55],
  .cells [.str [118,97,114], .str [121], .int .i64 0, .int .i64 54, .nilsl, .nilsl, .nilsl, .bool false, .nilsl, .nilptr, .bool false, .int .i64 p56, .int .i64 p57]]
def apG1 (p0 p1 p2 p3 p4 p5 p6 p7 p8 p9 p10 p11 p12 p13 p14 p15 p16 p17 p18 p19 p20 p21 p22 p23 p24 p25 p26 p27 p28 p29 p30 p31 p32 p33 p34 p35 p36 p37 p38 p39 p40 p41 p42 p43 p44 p45 p46 p47 p48 p49 p50 p51 p52 p53 p54 p55 p56 p57 p58 p59 p60 p61 p62 p63 p64 p65 p66 p67 p68 p69 p70 : Int) : List AObj := [
  .cells [.str [102], .sl 1 0 5 2 2 true, .sl 2 0 5 3 3 true, .sl 3 0 5 0 0 false, .sl 4 0 7 3 3 true, .int .i64 62, .sl 5 0 1 3 3 true, .map 6, .map 7, .nilsl],
  .cells [.str [120], .int .i64 2, .str [], .bool false, .int .i64 69, .str [121], .int .i64 2, .str [], .bool false, .int .i64 72],
  .cells [.str [97], .int .i64 2, .str [], .bool false, .int .i64 89, .str [98], .int .i64 2, .str [], .bool false, .int .i64 92, .str [99], .int .i64 2, .str [], .bool false, .int .i64 95],
  .cells [],
  .cells [.str [99], .str [45], .str [], .int .i64 0, .int .i64 119, .sl 8 0 5 2 2 true, .int .i64 108, .str [97], .str [99,97,108,108], .str [115,117,109], .int .i64 0, .int .i64 133, .sl 9 0 5 1 1 true, .int .i64 129, .str [98], .str [99,97,108,108], .str [115,117,109], .int .i64 0, .int .i64 145, .sl 10 0 5 1 1 true, .int .i64 141],
  .cells [.str [97], .str [98], .str [99]],
  .map [(.str [99], .ptr 11 0), (.str [97], .ptr 12 0), (.str [98], .ptr 13 0)],
  .map [(.str [120], .int .i64 p0), (.str [121], .int .i64 p1), (.str [97], .int .i64 p2), (.str [98], .int .i64 p3), (.str [99], .int .i64 p4)],
  .cells [.str [99,97,108,108], .str [115,117,109], .int .i64 0, .int .i64 112, .sl 14 0 5 1 1 true, .str [99,97,108,108], .str [115,117,109], .int .i64 0, .int .i64 121, .sl 15 0 5 1 1 true],
  .cells [.str [118,97,114], .str [120], .int .i64 0, .int .i64 137, .nilsl],
  .cells [.str [118,97,114], .str [121], .int .i64 0, .int .i64 149, .nilsl],
  .cells [.str [45], .str [], .int .i64 0, .int .i64 119, .nilsl, .nilsl, .sl 16 0 8 2 2 true, .bool false, .sl 17 0 1 2 2 true, .nilptr, .bool false, .int .i64 p5, .int .i64 p6],
  .cells [.str [99,97,108,108], .str [115,117,109], .int .i64 0, .int .i64 133, .nilsl, .nilsl, .sl 18 0 8 1 1 true, .bool false, .sl 19 0 1 1 1 true, .ptr 20 0, .bool false, .int .i64 p7, .int .i64 p8],
  .cells [.str [99,97,108,108], .str [115,117,109], .int .i64 0, .int .i64 145, .nilsl, .nilsl, .sl 21 0 8 1 1 true, .bool false, .sl 22 0 1 1 1 true, .ptr 23 0, .bool false, .int .i64 p9, .int .i64 p10],
  .cells [.str [118,97,114], .str [120], .int .i64 0, .int .i64 116, .nilsl],
  .cells [.str [118,97,114], .str [121], .int .i64 0, .int .i64 125, .nilsl],
  .cells [.str [99,97,108,108], .str [115,117,109], .int .i64 0, .int .i64 112, .nilsl, .nilsl, .sl 24 0 8 1 1 true, .bool false, .str [99,97,108,108], .str [115,117,109], .int .i64 0, .int .i64 121, .nilsl, .nilsl, .sl 25 0 8 1 1 true, .bool false],
  .cells [.ptr 26 0, .ptr 27 0],
  .cells [.str [118,97,114], .str [120], .int .i64 0, .int .i64 137, .nilsl, .nilsl, .nilsl, .bool false],
  .cells [.ptr 28 0],
  .cells [.str [115,117,109], .sl 29 0 5 1 1 true, .sl 30 0 5 1 1 true, .sl 31 0 5 0 0 false, .sl 32 0 7 1 1 true, .int .i64 0, .sl 33 0 1 1 1 true, .map 34, .map 35, .nilsl],
  .cells [.str [118,97,114], .str [121], .int .i64 0, .int .i64 149, .nilsl, .nilsl, .nilsl, .bool false],
  .cells [.ptr 36 0],
  .cells [.str [115,117,109], .sl 37 0 5 1 1 true, .sl 38 0 5 1 1 true, .sl 39 0 5 0 0 false, .sl 40 0 7 1 1 true, .int .i64 0, .sl 41 0 1 1 1 true, .map 42, .map 43, .nilsl],
  .cells [.str [118,97,114], .str [120], .int .i64 0, .int .i64 116, .nilsl, .nilsl, .nilsl, .bool false],
  .cells [.str [118,97,114], .str [121], .int .i64 0, .int .i64 125, .nilsl, .nilsl, .nilsl, .bool false],
  .cells [.str [99,97,108,108], .str [115,117,109], .int .i64 0, .int .i64 112, .nilsl, .nilsl, .sl 24 0 8 1 1 true, .bool false, .sl 44 0 1 1 1 true, .ptr 45 0, .bool false, .int .i64 p11, .int .i64 p12],
  .cells [.str [99,97,108,108], .str [115,117,109], .int .i64 0, .int .i64 121, .nilsl, .nilsl, .sl 25 0 8 1 1 true, .bool false, .sl 46 0 1 1 1 true, .ptr 47 0, .bool false, .int .i64 p13, .int .i64 p14],
  .cells [.str [118,97,114], .str [120], .int .i64 0, .int .i64 137, .nilsl, .nilsl, .nilsl, .bool false, .nilsl, .nilptr, .bool false, .int .i64 p15, .int .i64 p16],
  .cells [.str [120], .int .i64 2, .str [], .bool false, .int .i64 9],
  .cells [.str [121], .int .i64 2, .str [], .bool false, .int .i64 26],
  .cells [],
  .cells [.str [121], .str [43], .str [], .int .i64 0, .int .i64 45, .sl 48 0 5 2 2 true, .int .i64 39],
  .cells [.str [121]],
  .map [(.str [121], .ptr 49 0)],
  .map [(.str [120], .int .i64 p17), (.str [121], .int .i64 p18)],
  .cells [.str [118,97,114], .str [121], .int .i64 0, .int .i64 149, .nilsl, .nilsl, .nilsl, .bool false, .nilsl, .nilptr, .bool false, .int .i64 p19, .int .i64 p20],
  .cells [.str [120], .int .i64 2, .str [], .bool false, .int .i64 9],
  .cells [.str [121], .int .i64 2, .str [], .bool false, .int .i64 26],
  .cells [],
  .cells [.str [121], .str [43], .str [], .int .i64 0, .int .i64 45, .sl 50 0 5 2 2 true, .int .i64 39],
  .cells [.str [121]],
  .map [(.str [121], .ptr 51 0)],
  .map [(.str [120], .int .i64 p21), (.str [121], .int .i64 p22)],
  .cells [.ptr 52 0],
  .cells [.str [115,117,109], .sl 53 0 5 1 1 true, .sl 54 0 5 1 1 true, .sl 55 0 5 0 0 false, .sl 56 0 7 1 1 true, .int .i64 0, .sl 57 0 1 1 1 true, .map 58, .map 59, .nilsl],
  .cells [.ptr 60 0],
  .cells [.str [115,117,109], .sl 61 0 5 1 1 true, .sl 62 0 5 1 1 true, .sl 63 0 5 0 0 false, .sl 64 0 7 1 1 true, .int .i64 0, .sl 65 0 1 1 1 true, .map 66, .map 67, .nilsl],
  .cells [.str [118,97,114], .str [120], .int .i64 0, .int .i64 43, .nilsl, .str [102,98,121], .str [], .int .i64 0, .int .i64 50, .sl 68 0 5 2 2 true],
  .cells [.str [43], .str [], .int .i64 0, .int .i64 45, .nilsl, .nilsl, .sl 69 0 8 2 2 true, .bool false, .sl 70 0 1 2 2 true, .nilptr, .bool false, .int .i64 p23, .int .i64 p24],
  .cells [.str [118,97,114], .str [120], .int .i64 0, .int .i64 43, .nilsl, .str [102,98,121], .str [], .int .i64 0, .int .i64 50, .sl 71 0 5 2 2 true],
  .cells [.str [43], .str [], .int .i64 0, .int .i64 45, .nilsl, .nilsl, .sl 72 0 8 2 2 true, .bool false, .sl 73 0 1 2 2 true, .nilptr, .bool false, .int .i64 p25, .int .i64 p26],
  .cells [.str [118,97,114], .str [120], .int .i64 0, .int .i64 116, .nilsl, .nilsl, .nilsl, .bool false, .nilsl, .nilptr, .bool false, .int .i64 p27, .int .i64 p28],
  .cells [.str [120], .int .i64 2, .str [], .bool false, .int .i64 9],
  .cells [.str [121], .int .i64 2, .str [], .bool false, .int .i64 26],
  .cells [],
  .cells [.str [121], .str [43], .str [], .int .i64 0, .int .i64 45, .sl 74 0 5 2 2 true, .int .i64 39],
  .cells [.str [121]],
  .map [(.str [121], .ptr 75 0)],
  .map [(.str [120], .int .i64 p29), (.str [121], .int .i64 p30)],
  .cells [.str [118,97,114], .str [121], .int .i64 0, .int .i64 125, .nilsl, .nilsl, .nilsl, .bool false, .nilsl, .nilptr, .bool false, .int .i64 p31, .int .i64 p32],
  .cells [.str [120], .int .i64 2, .str [], .bool false, .int .i64 9],
  .cells [.str [121], .int .i64 2, .str [], .bool false, .int .i64 26],
  .cells [],
  .cells [.str [121], .str [43], .str [], .int .i64 0, .int .i64 45, .sl 76 0 5 2 2 true, .int .i64 39],
  .cells [.str [121]],
  .map [(.str [121], .ptr 77 0)],
  .map [(.str [120], .int .i64 p33), (.str [121], .int .i64 p34)],
  .cells [.str [105,110,116], .str [], .int .i64 0, .int .i64 48, .nilsl, .str [118,97,114], .str [121], .int .i64 0, .int .i64 54, .nilsl],
  .cells [.str [118,97,114], .str [120], .int .i64 0, .int .i64 43, .nilsl, .nilsl, .nilsl, .bool false, .str [102,98,121], .str [], .int .i64 0, .int .i64 50, .nilsl, .nilsl, .sl 78 0 8 2 2 true, .bool false],
  .cells [.ptr 79 0, .ptr 80 0],
  .cells [.str [105,110,116], .str [], .int .i64 0, .int .i64 48, .nilsl, .str [118,97,114], .str [121], .int .i64 0, .int .i64 54, .nilsl],
  .cells [.str [118,97,114], .str [120], .int .i64 0, .int .i64 43, .nilsl, .nilsl, .nilsl, .bool false, .str [102,98,121], .str [], .int .i64 0, .int .i64 50, .nilsl, .nilsl, .sl 81 0 8 2 2 true, .bool false],
  .cells [.ptr 82 0, .ptr 83 0],
  .cells [.str [118,97,114], .str [120], .int .i64 0, .int .i64 43, .nilsl, .str [102,98,121], .str [], .int .i64 0, .int .i64 50, .sl 84 0 5 2 2 true],
  .cells [.str [43], .str [], .int .i64 0, .int .i64 45, .nilsl, .nilsl, .sl 85 0 8 2 2 true, .bool false, .sl 86 0 1 2 2 true, .nilptr, .bool false, .int .i64 p35, .int .i64 p36],
  .cells [.str [118,97,114], .str [120], .int .i64 0, .int .i64 43, .nilsl, .str [102,98,121], .str [], .int .i64 0, .int .i64 50, .sl 87 0 5 2 2 true],
  .cells [.str [43], .str [], .int .i64 0, .int .i64 45, .nilsl, .nilsl, .sl 88 0 8 2 2 true, .bool false, .sl 89 0 1 2 2 true, .nilptr, .bool false, .int .i64 p37, .int .i64 p38],
  .cells [.str [105,110,116], .str [], .int .i64 0, .int .i64 48, .nilsl, .nilsl, .nilsl, .bool true, .str [118,97,114], .str [121], .int .i64 0, .int .i64 54, .nilsl, .nilsl, .nilsl, .bool false],
  .cells [.str [118,97,114], .str [120], .int .i64 0, .int .i64 43, .nilsl, .nilsl, .nilsl, .bool false, .nilsl, .nilptr, .bool false, .int .i64 p39, .int .i64 p40],
  .cells [.str [102,98,121], .str [], .int .i64 0, .int .i64 50, .nilsl, .nilsl, .sl 78 0 8 2 2 true, .bool false, .sl 90 0 1 2 2 true, .nilptr, .bool true, .int .i64 p41, .int .i64 p42],
  .cells [.str [105,110,116], .str [], .int .i64 0, .int .i64 48, .nilsl, .nilsl, .nilsl, .bool true, .str [118,97,114], .str [121], .int .i64 0, .int .i64 54, .nilsl, .nilsl, .nilsl, .bool false],
  .cells [.str [118,97,114], .str [120], .int .i64 0, .int .i64 43, .nilsl, .nilsl, .nilsl, .bool false, .nilsl, .nilptr, .bool false, .int .i64 p43, .int .i64 p44],
  .cells [.str [102,98,121], .str [], .int .i64 0, .int .i64 50, .nilsl, .nilsl, .sl 81 0 8 2 2 true, .bool false, .sl 91 0 1 2 2 true, .nilptr, .bool true, .int .i64 p45, .int .i64 p46],
  .cells [.str [105,110,116], .str [], .int .i64 0, .int .i64 48, .nilsl, .str [118,97,114], .str [121], .int .i64 0, .int .i64 54, .nilsl],
  .cells [.str [118,97,114], .str [120], .int .i64 0, .int .i64 43, .nilsl, .nilsl, .nilsl, .bool false, .str [102,98,121], .str [], .int .i64 0, .int .i64 50, .nilsl, .nilsl, .sl 92 0 8 2 2 true, .bool false],
  .cells [.ptr 93 0, .ptr 94 0],
  .cells [.str [105,110,116], .str [], .int .i64 0, .int .i64 48, .nilsl, .str [118,97,114], .str [121], .int .i64 0, .int .i64 54, .nilsl],
  .cells [.str [118,97,114], .str [120], .int .i64 0, .int .i64 43, .nilsl, .nilsl, .nilsl, .bool false, .str [102,98,121], .str [], .int .i64 0, .int .i64 50, .nilsl, .nilsl, .sl 95 0 8 2 2 true, .bool false],
  .cells [.ptr 96 0, .ptr 97 0],
  .cells [.ptr 98 0, .ptr 99 0],
  .cells [.ptr 100 0, .ptr 101 0],
  .cells [.str [105,110,116], .str [], .int .i64 0, .int .i64 48, .nilsl, .nilsl, .nilsl, .bool true, .str [118,97,114], .str [121], .int .i64 0, .int .i64 54, .nilsl, .nilsl, .nilsl, .bool false],
  .cells [.str [118,97,114], .str [120], .int .i64 0, .int .i64 43, .nilsl, .nilsl, .nilsl, .bool false, .nilsl, .nilptr, .bool false, .int .i64 p47, .int .i64 p48],
  .cells [.str [102,98,121], .str [], .int .i64 0, .int .i64 50, .nilsl, .nilsl, .sl 92 0 8 2 2 true, .bool false, .sl 102 0 1 2 2 true, .nilptr, .bool true, .int .i64 p49, .int .i64 p50],
  .cells [.str [105,110,116], .str [], .int .i64 0, .int .i64 48, .nilsl, .nilsl, .nilsl, .bool true, .str [118,97,114], .str [121], .int .i64 0, .int .i64 54, .nilsl, .nilsl, .nilsl, .bool false],
  .cells [.str [118,97,114], .str [120], .int .i64 0, .int .i64 43, .nilsl, .nilsl, .nilsl, .bool false, .nilsl, .nilptr, .bool false, .int .i64 p51, .int .i64 p52],
  .cells [.str [102,98,121], .str [], .int .i64 0, .int .i64 50, .nilsl, .nilsl, .sl 95 0 8 2 2 true, .bool false, .sl 103 0 1 2 2 true, .nilptr, .bool true, .int .i64 p53, .int .i64 p54],
  .cells [.str [105,110,116], .str [], .int .i64 0, .int .i64 48, .nilsl, .nilsl, .nilsl, .bool true, .nilsl, .nilptr, .bool false, .int .i64 p55, .int .i64 p56],
  .cells [.str [118,97,114], .str [121], .int .i64 0, .int .i64 54, .nilsl, .nilsl, .nilsl, .bool false, .nilsl, .nilptr, .bool false, .int .i64 p57, .int .i64 p58],
  .cells [.str [105,110,116], .str [], .int .i64 0, .int .i64 48, .nilsl, .nilsl, .nilsl, .bool true, .nilsl, .nilptr, .bool false, .int .i64 p59, .int .i64 p60],
  .cells [.str [118,97,114], .str [121], .int .i64 0, .int .i64 54, .nilsl, .nilsl, .nilsl, .bool false, .nilsl, .nilptr, .bool false, .int .i64 p61, .int .i64 p62],
  .cells [.ptr 104 0, .ptr 105 0],
  .cells [.ptr 106 0, .ptr 107 0],
  .cells [.str [105,110,116], .str [], .int .i64 0, .int .i64 48, .nilsl, .nilsl, .nilsl, .bool true, .nilsl, .nilptr, .bool false, .int .i64 p63, .int .i64 p64],
  .cells [.str [118,97,114], .str [121], .int .i64 0, .int .i64 54, .nilsl, .nilsl, .nilsl, .bool false, .nilsl, .nilptr, .bool false, .int .i64 p65, .int .i64 p66],
  .cells [.str [105,110,116], .str [], .int .i64 0, .int .i64 48, .nilsl, .nilsl, .nilsl, .bool true, .nilsl, .nilptr, .bool false, .int .i64 p67, .int .i64 p68],
  .cells [.str [118,97,114], .str [121], .int .i64 0, .int .i64 54, .nilsl, .nilsl, .nilsl, .bool false, .nilsl, .nilptr, .bool false, .int .i64 p69, .int .i64 p70]]
def apB : List AObj := apG0 0 0 0 0 0 0 0 0 0 0 0 0 0 0 0 0 0 0 0 0 0 0 0 0 0 0 0 0 0 0 0 0 0 0 0 0 0 0 0 0 0 0 0 0 0 0 0 0 0 0 0 0 0 0 0 0 0 0
def apperm : List Nat := [39, 3, 5, 6, 8, 182, 37, 38, 12, 28, 34, 244, 617, 812, 16, 22, 232, 590, 607, 622, 650, 802, 817, 845, 203, 224, 247, 420, 620, 628, 630, 631, 633, 704, 648, 649, 815, 823, 825, 826, 828, 899, 843, 844, 252, 280, 425, 453, 637, 765, 832, 960, 250, 258, 260, 261, 263, 334, 278, 279, 423, 431, 433, 434, 436, 507, 451, 452, 643, 753, 785, 838, 948, 980, 267, 395, 440, 568, 742, 768, 773, 937, 963, 968, 273, 383, 415, 446, 556, 588, 783, 978, 372, 398, 403, 545, 571, 576, 776, 781, 971, 976, 413, 586, 406, 411, 579, 584]
theorem apbegun (H : AHeap) : Does Tryz.prog (Gof tab) 23 [apnodes] H fun r h => ∃ ρ : Nat → Nat, IsPart (AHeap.ofList apB) ρ h ∧ (∀ i, i < apB.length → H.next ≤ ρ i) ∧ r = .ptr (ρ 0) 0 ∧ H.next ≤ h.next ∧ ∀ j, j < H.next → h.get j = H.get j :=
  fresh_does (fuel := 100000) (n := 300) nmixed nplain knownW_good ngof (perm := apperm) (by kernel_rfl) rfl (by decide) (fun Q => by kernel_rfl) H

theorem apok_0 (p0 p1 p2 p3 p4 p5 p6 p7 p8 p9 p10 p11 p12 p13 p14 p15 p16 p17 p18 p19 p20 p21 p22 p23 p24 p25 p26 p27 p28 p29 p30 p31 p32 p33 p34 p35 p36 p37 p38 p39 p40 p41 p42 p43 p44 p45 p46 p47 p48 p49 p50 p51 p52 p53 p54 p55 p56 p57 : Int) : heapOk 108 (apG0 p0 p1 p2 p3 p4 p5 p6 p7 p8 p9 p10 p11 p12 p13 p14 p15 p16 p17 p18 p19 p20 p21 p22 p23 p24 p25 p26 p27 p28 p29 p30 p31 p32 p33 p34 p35 p36 p37 p38 p39 p40 p41 p42 p43 p44 p45 p46 p47 p48 p49 p50 p51 p52 p53 p54 p55 p56 p57) = true := by kernel_rfl
theorem aplen_0 (p0 p1 p2 p3 p4 p5 p6 p7 p8 p9 p10 p11 p12 p13 p14 p15 p16 p17 p18 p19 p20 p21 p22 p23 p24 p25 p26 p27 p28 p29 p30 p31 p32 p33 p34 p35 p36 p37 p38 p39 p40 p41 p42 p43 p44 p45 p46 p47 p48 p49 p50 p51 p52 p53 p54 p55 p56 p57 : Int) : (apG0 p0 p1 p2 p3 p4 p5 p6 p7 p8 p9 p10 p11 p12 p13 p14 p15 p16 p17 p18 p19 p20 p21 p22 p23 p24 p25 p26 p27 p28 p29 p30 p31 p32 p33 p34 p35 p36 p37 p38 p39 p40 p41 p42 p43 p44 p45 p46 p47 p48 p49 p50 p51 p52 p53 p54 p55 p56 p57).length = 108 := rfl
theorem apok_1 (p0 p1 p2 p3 p4 p5 p6 p7 p8 p9 p10 p11 p12 p13 p14 p15 p16 p17 p18 p19 p20 p21 p22 p23 p24 p25 p26 p27 p28 p29 p30 p31 p32 p33 p34 p35 p36 p37 p38 p39 p40 p41 p42 p43 p44 p45 p46 p47 p48 p49 p50 p51 p52 p53 p54 p55 p56 p57 p58 p59 p60 p61 p62 p63 p64 p65 p66 p67 p68 p69 p70 : Int) : heapOk 108 (apG1 p0 p1 p2 p3 p4 p5 p6 p7 p8 p9 p10 p11 p12 p13 p14 p15 p16 p17 p18 p19 p20 p21 p22 p23 p24 p25 p26 p27 p28 p29 p30 p31 p32 p33 p34 p35 p36 p37 p38 p39 p40 p41 p42 p43 p44 p45 p46 p47 p48 p49 p50 p51 p52 p53 p54 p55 p56 p57 p58 p59 p60 p61 p62 p63 p64 p65 p66 p67 p68 p69 p70) = true := by kernel_rfl
theorem aplen_1 (p0 p1 p2 p3 p4 p5 p6 p7 p8 p9 p10 p11 p12 p13 p14 p15 p16 p17 p18 p19 p20 p21 p22 p23 p24 p25 p26 p27 p28 p29 p30 p31 p32 p33 p34 p35 p36 p37 p38 p39 p40 p41 p42 p43 p44 p45 p46 p47 p48 p49 p50 p51 p52 p53 p54 p55 p56 p57 p58 p59 p60 p61 p62 p63 p64 p65 p66 p67 p68 p69 p70 : Int) : (apG1 p0 p1 p2 p3 p4 p5 p6 p7 p8 p9 p10 p11 p12 p13 p14 p15 p16 p17 p18 p19 p20 p21 p22 p23 p24 p25 p26 p27 p28 p29 p30 p31 p32 p33 p34 p35 p36 p37 p38 p39 p40 p41 p42 p43 p44 p45 p46 p47 p48 p49 p50 p51 p52 p53 p54 p55 p56 p57 p58 p59 p60 p61 p62 p63 p64 p65 p66 p67 p68 p69 p70).length = 108 := rfl
theorem apfits_ii (x0 x1 : Int) (H : AHeap) : Does Tryz.prog (Gof tab) 21 [apins, .vsl [.int .i64 x0, .int .i64 x1] 2] H fun r h => r = .bool true ∧ h = H :=
  sym_does (fuel := 100000) (n := 300) nmixed nplain knownW_good ngof (by kernel_rfl) (fun Q => by kernel_rfl) (fun _ => rfl) H

theorem aptick_0_ii (p0 p1 p2 p3 p4 p5 p6 p7 p8 p9 p10 p11 p12 p13 p14 p15 p16 p17 p18 p19 p20 p21 p22 p23 p24 p25 p26 p27 p28 p29 p30 p31 p32 p33 p34 p35 p36 p37 p38 p39 p40 p41 p42 p43 p44 p45 p46 p47 p48 p49 p50 p51 p52 p53 p54 p55 p56 p57 : Int) (x0 x1 : Int) : Does Tryz.prog (Gof tab) 24 [.ptr 0 0, .vsl [.int .i64 x0, .int .i64 x1] 2] (AHeap.ofList (apG0 p0 p1 p2 p3 p4 p5 p6 p7 p8 p9 p10 p11 p12 p13 p14 p15 p16 p17 p18 p19 p20 p21 p22 p23 p24 p25 p26 p27 p28 p29 p30 p31 p32 p33 p34 p35 p36 p37 p38 p39 p40 p41 p42 p43 p44 p45 p46 p47 p48 p49 p50 p51 p52 p53 p54 p55 p56 p57)) fun r h => r = .vsl [.int .i64 (fwrap IntKind.i64 (iadd (x0) 0)), .int .i64 (fwrap IntKind.i64 (iadd (x1) 0)), .int .i64 (fwrap IntKind.i64 (isub (fwrap IntKind.i64 (iadd (x0) 0)) (fwrap IntKind.i64 (iadd (x1) 0))))] 3 ∧ h = AHeap.ofList (apG1 (x0) (x1) (fwrap IntKind.i64 (iadd (x0) 0)) (fwrap IntKind.i64 (iadd (x1) 0)) (fwrap IntKind.i64 (isub (fwrap IntKind.i64 (iadd (x0) 0)) (fwrap IntKind.i64 (iadd (x1) 0)))) (p0) (p1) (p2) (p3) (p4) (p5) (p6) (p7) (p8) (p9) (p10) (p11) (x0) (fwrap IntKind.i64 (iadd (x0) 0)) (p12) (p13) (x1) (fwrap IntKind.i64 (iadd (x1) 0)) (p14) (p15) (p16) (p17) (p18) (p19) (x0) (fwrap IntKind.i64 (iadd (x0) 0)) (p20) (p21) (x1) (fwrap IntKind.i64 (iadd (x1) 0)) (p22) (p23) (p24) (p25) (p26) (p27) (fwrap IntKind.i64 (iadd (x0) 0)) (fwrap IntKind.i64 (iadd (x0) 0)) (p30) (p31) (fwrap IntKind.i64 (iadd (x1) 0)) (fwrap IntKind.i64 (iadd (x1) 0)) (p34) (p35) (fwrap IntKind.i64 (iadd (x0) 0)) (fwrap IntKind.i64 (iadd (x0) 0)) (p38) (p39) (fwrap IntKind.i64 (iadd (x1) 0)) (fwrap IntKind.i64 (iadd (x1) 0)) (p42) (p43) (p44) (p45) (p46) (p47) (p48) (p49) (p50) (p51) (p52) (p53) (p54) (p55) (p56) (p57)) :=
  tick_does (fuel := 100000) (n := 300) nmixed nplain knownW_good (by kernel_rfl) (by kernel_rfl) (fun Q => by kernel_rfl)

theorem aptick_1_ii (p0 p1 p2 p3 p4 p5 p6 p7 p8 p9 p10 p11 p12 p13 p14 p15 p16 p17 p18 p19 p20 p21 p22 p23 p24 p25 p26 p27 p28 p29 p30 p31 p32 p33 p34 p35 p36 p37 p38 p39 p40 p41 p42 p43 p44 p45 p46 p47 p48 p49 p50 p51 p52 p53 p54 p55 p56 p57 p58 p59 p60 p61 p62 p63 p64 p65 p66 p67 p68 p69 p70 : Int) (x0 x1 : Int) : Does Tryz.prog (Gof tab) 24 [.ptr 0 0, .vsl [.int .i64 x0, .int .i64 x1] 2] (AHeap.ofList (apG1 p0 p1 p2 p3 p4 p5 p6 p7 p8 p9 p10 p11 p12 p13 p14 p15 p16 p17 p18 p19 p20 p21 p22 p23 p24 p25 p26 p27 p28 p29 p30 p31 p32 p33 p34 p35 p36 p37 p38 p39 p40 p41 p42 p43 p44 p45 p46 p47 p48 p49 p50 p51 p52 p53 p54 p55 p56 p57 p58 p59 p60 p61 p62 p63 p64 p65 p66 p67 p68 p69 p70)) fun r h => r = .vsl [.int .i64 (fwrap IntKind.i64 (iadd (x0) (p41))), .int .i64 (fwrap IntKind.i64 (iadd (x1) (p45))), .int .i64 (fwrap IntKind.i64 (isub (fwrap IntKind.i64 (iadd (x0) (p49))) (fwrap IntKind.i64 (iadd (x1) (p53)))))] 3 ∧ h = AHeap.ofList (apG1 (x0) (x1) (fwrap IntKind.i64 (iadd (x0) (p41))) (fwrap IntKind.i64 (iadd (x1) (p45))) (fwrap IntKind.i64 (isub (fwrap IntKind.i64 (iadd (x0) (p49))) (fwrap IntKind.i64 (iadd (x1) (p53))))) (p5) (p6) (p7) (p8) (p9) (p10) (p11) (p12) (p13) (p14) (p15) (p16) (x0) (fwrap IntKind.i64 (iadd (x0) (p41))) (p19) (p20) (x1) (fwrap IntKind.i64 (iadd (x1) (p45))) (p23) (p24) (p25) (p26) (p27) (p28) (x0) (fwrap IntKind.i64 (iadd (x0) (p49))) (p31) (p32) (x1) (fwrap IntKind.i64 (iadd (x1) (p53))) (p35) (p36) (p37) (p38) (p39) (p40) (fwrap IntKind.i64 (iadd (x0) (p41))) (fwrap IntKind.i64 (iadd (x0) (p41))) (p43) (p44) (fwrap IntKind.i64 (iadd (x1) (p45))) (fwrap IntKind.i64 (iadd (x1) (p45))) (p47) (p48) (fwrap IntKind.i64 (iadd (x0) (p49))) (fwrap IntKind.i64 (iadd (x0) (p49))) (p51) (p52) (fwrap IntKind.i64 (iadd (x1) (p53))) (fwrap IntKind.i64 (iadd (x1) (p53))) (p55) (p56) (p57) (p58) (p59) (p60) (p61) (p62) (p63) (p64) (p65) (p66) (p67) (p68) (p69) (p70)) :=
  tick_does (fuel := 100000) (n := 300) nmixed nplain knownW_good (by kernel_rfl) (by kernel_rfl) (fun Q => by kernel_rfl)

end Go.Proofs.YtnnlgafmpobdhaaGreatDoor

/-
  A program's machine: what it tells, tick by tick: node sum(x: int) returns (y: int); let y = x + (0 fby y); tel node f(x, y: int) returns (a, b, c: int); let c = sum(x) - sum(y); a = sum(x); b = sum(y); tel
-/


namespace Go.Proofs.YtnnlgafmpobdhaaGreatDoor
open Go Go.Abs Go.RowKit
set_option maxRecDepth 100000
set_option linter.unusedVariables false
set_option linter.unusedSimpArgs false

/-- A sum, behind so many ticks. -/
def apA (x : Nat → Int) : Nat → Int
  | 0 => 0
  | i + 1 => IntKind.i64.wrap (apA x i + x i)
def apRow (x y : Nat → Int) (i : Nat) : AV := .vsl [.int .i64 (x i), .int .i64 (y i)] 2
def apOut (x y : Nat → Int) (i : Nat) : AV := .vsl [.int .i64 (apA x (i + 1)), .int .i64 (apA y (i + 1)), .int .i64 (IntKind.i64.wrap (apA x (i + 1) - apA y (i + 1)))] 3
def apI (x y : Nat → Int) (i : Nat) (l : List AObj) : Prop := (∃ p0 p1 p2 p3 p4 p5 p6 p7 p8 p9 p10 p11 p12 p13 p14 p15 p16 p17 p18 p19 p20 p21 p22 p23 p24 p25 p26 p27 p28 p29 p30 p31 p32 p33 p34 p35 p36 p37 p38 p39 p40 p41 p42 p43 p44 p45 p46 p47 p48 p49 p50 p51 p52 p53 p54 p55 p56 p57 : Int, l = apG0 p0 p1 p2 p3 p4 p5 p6 p7 p8 p9 p10 p11 p12 p13 p14 p15 p16 p17 p18 p19 p20 p21 p22 p23 p24 p25 p26 p27 p28 p29 p30 p31 p32 p33 p34 p35 p36 p37 p38 p39 p40 p41 p42 p43 p44 p45 p46 p47 p48 p49 p50 p51 p52 p53 p54 p55 p56 p57 ∧ i = 0) ∨ (∃ p0 p1 p2 p3 p4 p5 p6 p7 p8 p9 p10 p11 p12 p13 p14 p15 p16 p17 p18 p19 p20 p21 p22 p23 p24 p25 p26 p27 p28 p29 p30 p31 p32 p33 p34 p35 p36 p37 p38 p39 p40 p41 p42 p43 p44 p45 p46 p47 p48 p49 p50 p51 p52 p53 p54 p55 p56 p57 p58 p59 p60 p61 p62 p63 p64 p65 p66 p67 p68 p69 p70 : Int, l = apG1 p0 p1 p2 p3 p4 p5 p6 p7 p8 p9 p10 p11 p12 p13 p14 p15 p16 p17 p18 p19 p20 p21 p22 p23 p24 p25 p26 p27 p28 p29 p30 p31 p32 p33 p34 p35 p36 p37 p38 p39 p40 p41 p42 p43 p44 p45 p46 p47 p48 p49 p50 p51 p52 p53 p54 p55 p56 p57 p58 p59 p60 p61 p62 p63 p64 p65 p66 p67 p68 p69 p70 ∧ p41 = apA x i ∧ p45 = apA y i ∧ p49 = apA x i ∧ p53 = apA y i)
theorem apmachine (x y : Nat → Int) (n : Nat) : ∃ g, MeanMachine (Gof tab) 108 g apnodes ((List.range n).map (apRow x y)) ((List.range n).map (apOut x y)) := by
  refine machine_rel (B := apB) (I := apI x y) ngof (by decide) (.inl ⟨_, _, _, _, _, _, _, _, _, _, _, _, _, _, _, _, _, _, _, _, _, _, _, _, _, _, _, _, _, _, _, _, _, _, _, _, _, _, _, _, _, _, _, _, _, _, _, _, _, _, _, _, _, _, _, _, _, _, rfl, rfl⟩) ?_ ?_ ?_ (c0 := .str [102]) (ins := apins) (c2 := .vsl [.str [97], .int .i64 2, .str [], .bool false, .int .i64 89, .str [98], .int .i64 2, .str [], .bool false, .int .i64 92, .str [99], .int .i64 2, .str [], .bool false, .int .i64 95] 3) (c3 := .vsl [] 0) (c4 := .vsl [.str [99], .str [45], .str [], .int .i64 0, .int .i64 119, .vsl [.str [99,97,108,108], .str [115,117,109], .int .i64 0, .int .i64 112, .vsl [.str [118,97,114], .str [120], .int .i64 0, .int .i64 116, .nilsl] 1, .str [99,97,108,108], .str [115,117,109], .int .i64 0, .int .i64 121, .vsl [.str [118,97,114], .str [121], .int .i64 0, .int .i64 125, .nilsl] 1] 2, .int .i64 108, .str [97], .str [99,97,108,108], .str [115,117,109], .int .i64 0, .int .i64 133, .vsl [.str [118,97,114], .str [120], .int .i64 0, .int .i64 137, .nilsl] 1, .int .i64 129, .str [98], .str [99,97,108,108], .str [115,117,109], .int .i64 0, .int .i64 145, .vsl [.str [118,97,114], .str [121], .int .i64 0, .int .i64 149, .nilsl] 1, .int .i64 141] 3) (c5 := .int .i64 62) rfl apmain_does ?_ (cn := 7) (by decide) apcount apbegun ?_
  · rintro i l (⟨p0, p1, p2, p3, p4, p5, p6, p7, p8, p9, p10, p11, p12, p13, p14, p15, p16, p17, p18, p19, p20, p21, p22, p23, p24, p25, p26, p27, p28, p29, p30, p31, p32, p33, p34, p35, p36, p37, p38, p39, p40, p41, p42, p43, p44, p45, p46, p47, p48, p49, p50, p51, p52, p53, p54, p55, p56, p57, rfl, hp⟩ | ⟨p0, p1, p2, p3, p4, p5, p6, p7, p8, p9, p10, p11, p12, p13, p14, p15, p16, p17, p18, p19, p20, p21, p22, p23, p24, p25, p26, p27, p28, p29, p30, p31, p32, p33, p34, p35, p36, p37, p38, p39, p40, p41, p42, p43, p44, p45, p46, p47, p48, p49, p50, p51, p52, p53, p54, p55, p56, p57, p58, p59, p60, p61, p62, p63, p64, p65, p66, p67, p68, p69, p70, rfl, hp⟩)
    · exact ⟨aplen_0 _ _ _ _ _ _ _ _ _ _ _ _ _ _ _ _ _ _ _ _ _ _ _ _ _ _ _ _ _ _ _ _ _ _ _ _ _ _ _ _ _ _ _ _ _ _ _ _ _ _ _ _ _ _ _ _ _ _, apok_0 _ _ _ _ _ _ _ _ _ _ _ _ _ _ _ _ _ _ _ _ _ _ _ _ _ _ _ _ _ _ _ _ _ _ _ _ _ _ _ _ _ _ _ _ _ _ _ _ _ _ _ _ _ _ _ _ _ _⟩
    · exact ⟨aplen_1 _ _ _ _ _ _ _ _ _ _ _ _ _ _ _ _ _ _ _ _ _ _ _ _ _ _ _ _ _ _ _ _ _ _ _ _ _ _ _ _ _ _ _ _ _ _ _ _ _ _ _ _ _ _ _ _ _ _ _ _ _ _ _ _ _ _ _ _ _ _ _, apok_1 _ _ _ _ _ _ _ _ _ _ _ _ _ _ _ _ _ _ _ _ _ _ _ _ _ _ _ _ _ _ _ _ _ _ _ _ _ _ _ _ _ _ _ _ _ _ _ _ _ _ _ _ _ _ _ _ _ _ _ _ _ _ _ _ _ _ _ _ _ _ _⟩
  · intro i _
    exact ⟨rfl, fun _ => rfl⟩
  · intro i _
    exact ⟨rfl, rfl, fun _ => rfl⟩
  · intro i _ H
    exact apfits_ii (x i) (y i) H
  · rintro i l hin (⟨p0, p1, p2, p3, p4, p5, p6, p7, p8, p9, p10, p11, p12, p13, p14, p15, p16, p17, p18, p19, p20, p21, p22, p23, p24, p25, p26, p27, p28, p29, p30, p31, p32, p33, p34, p35, p36, p37, p38, p39, p40, p41, p42, p43, p44, p45, p46, p47, p48, p49, p50, p51, p52, p53, p54, p55, p56, p57, rfl, hp⟩ | ⟨p0, p1, p2, p3, p4, p5, p6, p7, p8, p9, p10, p11, p12, p13, p14, p15, p16, p17, p18, p19, p20, p21, p22, p23, p24, p25, p26, p27, p28, p29, p30, p31, p32, p33, p34, p35, p36, p37, p38, p39, p40, p41, p42, p43, p44, p45, p46, p47, p48, p49, p50, p51, p52, p53, p54, p55, p56, p57, p58, p59, p60, p61, p62, p63, p64, p65, p66, p67, p68, p69, p70, rfl, hp⟩)
    · refine ⟨_, .inr (⟨_, _, _, _, _, _, _, _, _, _, _, _, _, _, _, _, _, _, _, _, _, _, _, _, _, _, _, _, _, _, _, _, _, _, _, _, _, _, _, _, _, _, _, _, _, _, _, _, _, _, _, _, _, _, _, _, _, _, _, _, _, _, _, _, _, _, _, _, _, _, _, rfl, ?_⟩), (aptick_0_ii _ _ _ _ _ _ _ _ _ _ _ _ _ _ _ _ _ _ _ _ _ _ _ _ _ _ _ _ _ _ _ _ _ _ _ _ _ _ _ _ _ _ _ _ _ _ _ _ _ _ _ _ _ _ _ _ _ _ (x i) (y i)).mono fun r h ⟨e1, e2⟩ => ⟨e1.trans ?_, e2⟩⟩
      · subst hp; simp [apA, fwrap_eq, iadd_eq]
      · subst hp; simp [apOut, apA, fwrap_eq, iadd_eq, isub_eq]
    · refine ⟨_, .inr (⟨_, _, _, _, _, _, _, _, _, _, _, _, _, _, _, _, _, _, _, _, _, _, _, _, _, _, _, _, _, _, _, _, _, _, _, _, _, _, _, _, _, _, _, _, _, _, _, _, _, _, _, _, _, _, _, _, _, _, _, _, _, _, _, _, _, _, _, _, _, _, _, rfl, ?_⟩), (aptick_1_ii _ _ _ _ _ _ _ _ _ _ _ _ _ _ _ _ _ _ _ _ _ _ _ _ _ _ _ _ _ _ _ _ _ _ _ _ _ _ _ _ _ _ _ _ _ _ _ _ _ _ _ _ _ _ _ _ _ _ _ _ _ _ _ _ _ _ _ _ _ _ _ (x i) (y i)).mono fun r h ⟨e1, e2⟩ => ⟨e1.trans ?_, e2⟩⟩
      · simp [apA, fwrap_eq, iadd_eq, hp.1, hp.2.1, hp.2.2.1, hp.2.2.2, Int.add_comm]
      · simp [apOut, apA, fwrap_eq, iadd_eq, isub_eq, hp.1, hp.2.1, hp.2.2.1, hp.2.2.2, Int.add_comm]
end Go.Proofs.YtnnlgafmpobdhaaGreatDoor

/-
  MeanApart: two calls of one node keep apart what they keep.
-/


namespace Go.Proofs.YtnnlgafmpobdhaaGreatDoor
open Go Go.Abs Go.Lex Go.RowKit
set_option maxRecDepth 100000
set_option linter.unusedVariables false
set_option linter.unusedSimpArgs false

def apIn (x : Nat → Int) (y : Nat → Int) (k : Nat) : List Int := [x k, y k]
def apWant (x : Nat → Int) (y : Nat → Int) (k : Nat) : List Int := [apA x (k + 1), apA y (k + 1), IntKind.i64.wrap (apA x (k + 1) - apA y (k + 1))]

set_option maxHeartbeats 4000000 in
theorem aplaw_run (x : Nat → Int) (y : Nat → Int) (n m : Nat) (a0 a1 : AV) (h0 : Arr (fun k => .int .i64 (x k)) n a0) (h1 : Arr (fun k => .int .i64 (y k)) m a1) (H : AHeap) :
    Does Tryz.prog (Gof tab) 7 [a0, a1] H fun r _ => r = .bool true := by
  refine Does.wf Tryz.call7 fun hw _ => ?_
  have e0 := alen_ints h0
  have e1 := alen_ints h1
  refine does_f Tryz.call7 Tryz.func7 rfl (by simp [Tryz.f7]) ?_
  simp
  refine does_use (awake12 _) ?_
  rintro _ HX ⟨rfl, hHX⟩
  rw [hHX]
  clear hHX HX
  simp [e0, e1, -alen]
  by_cases hn : 40 < n
  · have : (40 : Int) < n := by omega
    simp [this, e0, e1, -alen]
  have hn' : ¬ ((40 : Int) < n) := by omega
  by_cases hm : m = n
  case neg =>
    have : ((m : Int) != n) = true := by simp; omega
    simp [hn', this, e0, e1, -alen]
  subst hm
  simp [hn', e0, e1, -alen]
  refine aws_loops (fun k T' H' => ∃ i : Nat, i + k = m ∧ T' 0 = a0 ∧ T' 1 = a1 ∧ T' 9 = .int .i64 i ∧ T' 7 = .int .i64 (apA x i) ∧ T' 8 = .int .i64 (apA y i) ∧ Rows2 H H' (T' 5) (T' 6) (apIn x y) 2 (apWant x y) 3 i) m ?_ ?_
  · exact ⟨0, by simp, by simp, by simp, by simp, by simp [apA], by simp [apA], by simpa using Rows2.init H _ _ _ _⟩
  rintro k T H1 ⟨i, hik, t0, t1, t9, t7, t8, hR⟩ hw1 _
  by_cases hi : i < m
  · have hii : (i : Int) < m := by omega
    have p0 := arr_pos h0 (by omega)
    have p1 := arr_pos h1 (by omega)
    have q0 := at_range (f := fun k => AV.int .i64 (x k)) hi
    have q1 := at_range (f := fun k => AV.int .i64 (y k)) hi
    rw [p0] at t0 e0
    rw [p1] at t1 e1
    refine aws_f ?_
    have wr : IntKind.i64.wrap ((i : Int) + 1) = ((i + 1 : Nat) : Int) := by rw [IntWalk.i64_in _ (by omega)]; omega
    have wr1 : IntKind.i64.wrap 1 = 1 := by decide
    by_cases hi0 : i = 0
    · subst hi0
      obtain ⟨t5, t6⟩ := hR.zero
      simp [t0, t1, t9, t7, t8, t5, t6, e0, e1, hi, hii, q0, q1, -alen]
      refine aw_drawn [(4, 0), (8, 0)] mixedOrders (by kernel_rfl) ?_
      intro es hes
      simp [rds, heapF, t0, t1, t9, t7, t8, t5, t6, e0, e1, hi, hii, q0, q1, -alen]
      subst hes
      exact ⟨⟨by kernel_rfl, by kernel_rfl⟩, k - 1, by omega, 1, by omega, p0.symm, p1.symm, wr, by simp [apA], by simp [apA], hR.first hw (by simp [ri, apIn]) (by simp [ri, apWant, apA])⟩
    · obtain ⟨b1, b2, ρ1, ρ2, t5, t6, hg1, hg2, hb1l, hb2l, n8, hR'⟩ := hR.more (by omega) hw
      have n1 : b1 ≠ H1.next := by omega
      have n2 : b1 ≠ H1.next + 1 := by omega
      have n3 : b2 ≠ H1.next := by omega
      have n4 : b2 ≠ H1.next + 1 := by omega
      have n5 : b2 ≠ H1.next + 1 + 1 := by omega
      have n6 : b2 ≠ H1.next + 1 + 1 + 1 := by omega
      have n7 : b2 ≠ H1.next + 1 + 1 + 1 + 1 := by omega
      have hgrow : ¬ (i + 1 ≤ i) := by omega
      have g3 : (i + 1) * 24 ≤ 140737488355328 := by omega
      have g4 : i ≤ 4611686018427387903 := by omega
      have k1 : List.take i (List.map (fun k => AV.sl (ρ1 k) 0 1 2 2 false) (List.range i)) = List.map (fun k => AV.sl (ρ1 k) 0 1 2 2 false) (List.range i) := List.take_of_length_le (by simp)
      have k2 : List.take i (List.map (fun k => AV.sl (ρ2 k) 0 1 3 3 false) (List.range i)) = List.map (fun k => AV.sl (ρ2 k) 0 1 3 3 false) (List.range i) := List.take_of_length_le (by simp)
      simp [t0, t1, t9, t7, t8, t5, t6, e0, e1, hi, hii, q0, q1, hg1, hg2, n1, n2, n3, n4, n5, n6, n7, n8, hgrow, g3, g4, k1, k2, -alen, -List.map_take]
      refine aw_drawn [(4, 0), (8, 0)] mixedOrders (by kernel_rfl) ?_
      intro es hes
      simp [rds, heapF, t0, t1, t9, t7, t8, t5, t6, e0, e1, hi, hii, q0, q1, hg1, hg2, n1, n2, n3, n4, n5, n6, n7, n8, hgrow, g3, g4, k1, k2, -alen, -List.map_take]
      subst hes
      exact ⟨⟨by kernel_rfl, by kernel_rfl⟩, k - 1, by omega, i + 1, by omega, p0.symm, p1.symm, wr, by simp [apA], by simp [apA], hR' _ _ (by simp [ri, apIn]) (by simp [ri, apWant, apA])⟩
  · obtain rfl : i = m := by omega
    refine aws_two 5 6 hw hR (fun _ => rfl) (fun _ => rfl) fun T2 f5 f6 ft => aws_f ?_
    have u0 : T2 0 = a0 := (ft 0 (by decide) (by decide)).trans t0
    have u9 : T2 9 = .int .i64 (i : Nat) := (ft 9 (by decide) (by decide)).trans t9
    simp [u0, u9, f5, f6, e0, e1, -alen]
    obtain ⟨g, M⟩ := apmachine x y i
    have ho := fun H => all_true (G := Gof tab) ((List.range i).map (apWant x y)) (by simp; omega) (fun l hl => by
      obtain ⟨k, _, rfl⟩ := List.mem_map.1 hl
      exact Nat.lt_of_le_of_lt (Nat.le_of_eq rfl : (apWant x y k).length ≤ 3) (by decide)) H
    rw [← rows_outs (out := apOut x y) (fun _ => rfl)] at ho
    have hsc : (rowsV ((List.range i).map (apOut x y))).scalar = true := by unfold rowsV; split <;> rfl
    refine does_use (m_text M (by decide) (by simp; omega) apcheck _) ?_
    rintro _ HX ⟨rfl, hHX⟩
    rw [hHX]
    clear hHX HX
    simp [u0, u9, f5, f6, e0, e1, hsc, -alen]
    refine does_use (ho _) ?_
    rintro _ HX ⟨rfl, hHX⟩
    rw [hHX]
    clear hHX HX
    simp

theorem aplaw_any (H : AHeap) (a0 : AV) (a1 : AV) (s0 : Shp Tryz.prog 8 30 [a0]) (s1 : Shp Tryz.prog 8 30 [a1]) : Does Tryz.prog (Gof tab) 7 [a0, a1] H fun r _ => r = .bool true := by
  obtain ⟨n0, c0, _, _, h0⟩ := shp_ints Tryz.underlying30 Tryz.underlying2 s0
  obtain ⟨n1, c1, _, _, h1⟩ := shp_ints Tryz.underlying30 Tryz.underlying2 s1
  exact aplaw_run c0 c1 n0 n1 a0 a1 h0 h1 H
end Go.Proofs.YtnnlgafmpobdhaaGreatDoor
