/-
  Own library of this claim, part 6: texts one behind the other (MnP0).
-/
import Derived.Test.YtnnlgafmpobdhaaGreatDoorLibMeanOpsA

/-
  MeanOps's programs: what mean.Text answers on a row of two unknown numbers.
-/

namespace Go.Proofs.YtnnlgafmpobdhaaGreatDoor
open Go Go.Abs Go.RowKit
set_option maxRecDepth 100000

def op0text : List UInt8 := [110,111,100,101,32,102,40,97,44,32,98,58,32,105,110,116,41,32,114,101,116,117,114,110,115,32,40,121,58,32,105,110,116,59,32,122,58,32,105,110,116,41,59,32,108,101,116,32,121,32,61,32,97,32,43,32,98,59,32,122,32,61,32,45,32,97,59,32,116,101,108]
def op0nodes : AV := .vsl [.str [102], .vsl [.str [97], .int .i64 2, .str [], .bool false, .int .i64 7, .str [98], .int .i64 2, .str [], .bool false, .int .i64 10] 2, .vsl [.str [121], .int .i64 2, .str [], .bool false, .int .i64 27, .str [122], .int .i64 2, .str [], .bool false, .int .i64 35] 2, .nilsl, .vsl [.str [121], .str [43], .str [], .int .i64 0, .int .i64 54, .vsl [.str [118,97,114], .str [97], .int .i64 0, .int .i64 52, .nilsl, .str [118,97,114], .str [98], .int .i64 0, .int .i64 56, .nilsl] 2, .int .i64 48, .str [122], .str [110,101,103], .str [], .int .i64 0, .int .i64 63, .vsl [.str [118,97,114], .str [97], .int .i64 0, .int .i64 65, .nilsl] 1, .int .i64 59] 2, .int .i64 0] 1
def op0ok : AV := .agg [.int .i64 0, .int .i64 0]
def op0lit : AV := .tuple [op0nodes, op0ok]
theorem op0parse_run : fcall knownW Tryz.prog (Gof tab) 100000 300 18 [.str op0text] FH.empty (litK op0lit) = true := by kernel_rfl
theorem op0parse (H : AHeap) : Does Tryz.prog (Gof tab) 18 [.str op0text] H fun r h => r = op0lit ∧ h = H :=
  lit_does nmixed nplain knownW_good ngof (by kernel_rfl) (by kernel_rfl) op0parse_run H
theorem op0tree_run : fcall knownW Tryz.prog (Gof tab) 100000 300 19 [op0nodes] FH.empty (litK op0ok) = true := by kernel_rfl
theorem op0tree (H : AHeap) : Does Tryz.prog (Gof tab) 19 [op0nodes] H fun r h => r = op0ok ∧ h = H :=
  lit_does nmixed nplain knownW_good ngof (by kernel_rfl) (by kernel_rfl) op0tree_run H
noncomputable def op0known : Ov := ovAdd 69 (opOv [43] opF0) (ovAdd 18 (litOv [([.str op0text], op0lit)]) (ovAdd 19 (litOv [([op0nodes], op0ok)]) knownW))
theorem op0known_good : OvGoodK Tryz.prog (Gof tab) op0known := ovAdd_good (opOv_good fun a b H => m_op0 a b H) (ovAdd_good (litOv_good fun e he H => by
  simp only [List.mem_cons, List.not_mem_nil, or_false] at he
  subst he
  exact op0parse H) (ovAdd_good (litOv_good fun e he H => by
  simp only [List.mem_cons, List.not_mem_nil, or_false] at he
  subst he
  exact op0tree H) knownW_good))
theorem op0does (a b : Int) (H : AHeap) : Does Tryz.prog (Gof tab) 11 [.str op0text, .vsl [.vsl [.int .i64 a, .int .i64 b] 2] 1] H fun r h => r = .tuple [.vsl [.vsl [.int .i64 (opF0 a b), .int .i64 (IntKind.i64.wrap (0 - a))] 2] 1, op0ok] ∧ h = H :=
  sym_does (fuel := 100000) (n := 300) nmixed nplain op0known_good ngof (by kernel_rfl) (fun Q => by kernel_rfl) (fun _ => rfl) H

def op1text : List UInt8 := [110,111,100,101,32,102,40,97,44,32,98,58,32,105,110,116,41,32,114,101,116,117,114,110,115,32,40,121,58,32,105,110,116,59,32,122,58,32,105,110,116,41,59,32,108,101,116,32,121,32,61,32,97,32,45,32,98,59,32,122,32,61,32,45,32,97,59,32,116,101,108]
def op1nodes : AV := .vsl [.str [102], .vsl [.str [97], .int .i64 2, .str [], .bool false, .int .i64 7, .str [98], .int .i64 2, .str [], .bool false, .int .i64 10] 2, .vsl [.str [121], .int .i64 2, .str [], .bool false, .int .i64 27, .str [122], .int .i64 2, .str [], .bool false, .int .i64 35] 2, .nilsl, .vsl [.str [121], .str [45], .str [], .int .i64 0, .int .i64 54, .vsl [.str [118,97,114], .str [97], .int .i64 0, .int .i64 52, .nilsl, .str [118,97,114], .str [98], .int .i64 0, .int .i64 56, .nilsl] 2, .int .i64 48, .str [122], .str [110,101,103], .str [], .int .i64 0, .int .i64 63, .vsl [.str [118,97,114], .str [97], .int .i64 0, .int .i64 65, .nilsl] 1, .int .i64 59] 2, .int .i64 0] 1
def op1ok : AV := .agg [.int .i64 0, .int .i64 0]
def op1lit : AV := .tuple [op1nodes, op1ok]
theorem op1parse_run : fcall knownW Tryz.prog (Gof tab) 100000 300 18 [.str op1text] FH.empty (litK op1lit) = true := by kernel_rfl
theorem op1parse (H : AHeap) : Does Tryz.prog (Gof tab) 18 [.str op1text] H fun r h => r = op1lit ∧ h = H :=
  lit_does nmixed nplain knownW_good ngof (by kernel_rfl) (by kernel_rfl) op1parse_run H
theorem op1tree_run : fcall knownW Tryz.prog (Gof tab) 100000 300 19 [op1nodes] FH.empty (litK op1ok) = true := by kernel_rfl
theorem op1tree (H : AHeap) : Does Tryz.prog (Gof tab) 19 [op1nodes] H fun r h => r = op1ok ∧ h = H :=
  lit_does nmixed nplain knownW_good ngof (by kernel_rfl) (by kernel_rfl) op1tree_run H
noncomputable def op1known : Ov := ovAdd 69 (opOv [45] opF1) (ovAdd 18 (litOv [([.str op1text], op1lit)]) (ovAdd 19 (litOv [([op1nodes], op1ok)]) knownW))
theorem op1known_good : OvGoodK Tryz.prog (Gof tab) op1known := ovAdd_good (opOv_good fun a b H => m_op1 a b H) (ovAdd_good (litOv_good fun e he H => by
  simp only [List.mem_cons, List.not_mem_nil, or_false] at he
  subst he
  exact op1parse H) (ovAdd_good (litOv_good fun e he H => by
  simp only [List.mem_cons, List.not_mem_nil, or_false] at he
  subst he
  exact op1tree H) knownW_good))
theorem op1does (a b : Int) (H : AHeap) : Does Tryz.prog (Gof tab) 11 [.str op1text, .vsl [.vsl [.int .i64 a, .int .i64 b] 2] 1] H fun r h => r = .tuple [.vsl [.vsl [.int .i64 (opF1 a b), .int .i64 (IntKind.i64.wrap (0 - a))] 2] 1, op1ok] ∧ h = H :=
  sym_does (fuel := 100000) (n := 300) nmixed nplain op1known_good ngof (by kernel_rfl) (fun Q => by kernel_rfl) (fun _ => rfl) H

def op2text : List UInt8 := [110,111,100,101,32,102,40,97,44,32,98,58,32,105,110,116,41,32,114,101,116,117,114,110,115,32,40,121,58,32,105,110,116,59,32,122,58,32,105,110,116,41,59,32,108,101,116,32,121,32,61,32,97,32,42,32,98,59,32,122,32,61,32,45,32,97,59,32,116,101,108]
def op2nodes : AV := .vsl [.str [102], .vsl [.str [97], .int .i64 2, .str [], .bool false, .int .i64 7, .str [98], .int .i64 2, .str [], .bool false, .int .i64 10] 2, .vsl [.str [121], .int .i64 2, .str [], .bool false, .int .i64 27, .str [122], .int .i64 2, .str [], .bool false, .int .i64 35] 2, .nilsl, .vsl [.str [121], .str [42], .str [], .int .i64 0, .int .i64 54, .vsl [.str [118,97,114], .str [97], .int .i64 0, .int .i64 52, .nilsl, .str [118,97,114], .str [98], .int .i64 0, .int .i64 56, .nilsl] 2, .int .i64 48, .str [122], .str [110,101,103], .str [], .int .i64 0, .int .i64 63, .vsl [.str [118,97,114], .str [97], .int .i64 0, .int .i64 65, .nilsl] 1, .int .i64 59] 2, .int .i64 0] 1
def op2ok : AV := .agg [.int .i64 0, .int .i64 0]
def op2lit : AV := .tuple [op2nodes, op2ok]
theorem op2parse_run : fcall knownW Tryz.prog (Gof tab) 100000 300 18 [.str op2text] FH.empty (litK op2lit) = true := by kernel_rfl
theorem op2parse (H : AHeap) : Does Tryz.prog (Gof tab) 18 [.str op2text] H fun r h => r = op2lit ∧ h = H :=
  lit_does nmixed nplain knownW_good ngof (by kernel_rfl) (by kernel_rfl) op2parse_run H
theorem op2tree_run : fcall knownW Tryz.prog (Gof tab) 100000 300 19 [op2nodes] FH.empty (litK op2ok) = true := by kernel_rfl
theorem op2tree (H : AHeap) : Does Tryz.prog (Gof tab) 19 [op2nodes] H fun r h => r = op2ok ∧ h = H :=
  lit_does nmixed nplain knownW_good ngof (by kernel_rfl) (by kernel_rfl) op2tree_run H
noncomputable def op2known : Ov := ovAdd 69 (opOv [42] opF2) (ovAdd 18 (litOv [([.str op2text], op2lit)]) (ovAdd 19 (litOv [([op2nodes], op2ok)]) knownW))
theorem op2known_good : OvGoodK Tryz.prog (Gof tab) op2known := ovAdd_good (opOv_good fun a b H => m_op2 a b H) (ovAdd_good (litOv_good fun e he H => by
  simp only [List.mem_cons, List.not_mem_nil, or_false] at he
  subst he
  exact op2parse H) (ovAdd_good (litOv_good fun e he H => by
  simp only [List.mem_cons, List.not_mem_nil, or_false] at he
  subst he
  exact op2tree H) knownW_good))
theorem op2does (a b : Int) (H : AHeap) : Does Tryz.prog (Gof tab) 11 [.str op2text, .vsl [.vsl [.int .i64 a, .int .i64 b] 2] 1] H fun r h => r = .tuple [.vsl [.vsl [.int .i64 (opF2 a b), .int .i64 (IntKind.i64.wrap (0 - a))] 2] 1, op2ok] ∧ h = H :=
  sym_does (fuel := 100000) (n := 300) nmixed nplain op2known_good ngof (by kernel_rfl) (fun Q => by kernel_rfl) (fun _ => rfl) H

def op3text : List UInt8 := [110,111,100,101,32,102,40,97,44,32,98,58,32,105,110,116,41,32,114,101,116,117,114,110,115,32,40,121,58,32,105,110,116,59,32,122,58,32,105,110,116,41,59,32,108,101,116,32,121,32,61,32,97,32,47,32,98,59,32,122,32,61,32,45,32,97,59,32,116,101,108]
def op3nodes : AV := .vsl [.str [102], .vsl [.str [97], .int .i64 2, .str [], .bool false, .int .i64 7, .str [98], .int .i64 2, .str [], .bool false, .int .i64 10] 2, .vsl [.str [121], .int .i64 2, .str [], .bool false, .int .i64 27, .str [122], .int .i64 2, .str [], .bool false, .int .i64 35] 2, .nilsl, .vsl [.str [121], .str [47], .str [], .int .i64 0, .int .i64 54, .vsl [.str [118,97,114], .str [97], .int .i64 0, .int .i64 52, .nilsl, .str [118,97,114], .str [98], .int .i64 0, .int .i64 56, .nilsl] 2, .int .i64 48, .str [122], .str [110,101,103], .str [], .int .i64 0, .int .i64 63, .vsl [.str [118,97,114], .str [97], .int .i64 0, .int .i64 65, .nilsl] 1, .int .i64 59] 2, .int .i64 0] 1
def op3ok : AV := .agg [.int .i64 0, .int .i64 0]
def op3lit : AV := .tuple [op3nodes, op3ok]
theorem op3parse_run : fcall knownW Tryz.prog (Gof tab) 100000 300 18 [.str op3text] FH.empty (litK op3lit) = true := by kernel_rfl
theorem op3parse (H : AHeap) : Does Tryz.prog (Gof tab) 18 [.str op3text] H fun r h => r = op3lit ∧ h = H :=
  lit_does nmixed nplain knownW_good ngof (by kernel_rfl) (by kernel_rfl) op3parse_run H
theorem op3tree_run : fcall knownW Tryz.prog (Gof tab) 100000 300 19 [op3nodes] FH.empty (litK op3ok) = true := by kernel_rfl
theorem op3tree (H : AHeap) : Does Tryz.prog (Gof tab) 19 [op3nodes] H fun r h => r = op3ok ∧ h = H :=
  lit_does nmixed nplain knownW_good ngof (by kernel_rfl) (by kernel_rfl) op3tree_run H
noncomputable def op3known : Ov := ovAdd 69 (opOv [47] opF3) (ovAdd 18 (litOv [([.str op3text], op3lit)]) (ovAdd 19 (litOv [([op3nodes], op3ok)]) knownW))
theorem op3known_good : OvGoodK Tryz.prog (Gof tab) op3known := ovAdd_good (opOv_good fun a b H => m_op3 a b H) (ovAdd_good (litOv_good fun e he H => by
  simp only [List.mem_cons, List.not_mem_nil, or_false] at he
  subst he
  exact op3parse H) (ovAdd_good (litOv_good fun e he H => by
  simp only [List.mem_cons, List.not_mem_nil, or_false] at he
  subst he
  exact op3tree H) knownW_good))
theorem op3does (a b : Int) (H : AHeap) : Does Tryz.prog (Gof tab) 11 [.str op3text, .vsl [.vsl [.int .i64 a, .int .i64 b] 2] 1] H fun r h => r = .tuple [.vsl [.vsl [.int .i64 (opF3 a b), .int .i64 (IntKind.i64.wrap (0 - a))] 2] 1, op3ok] ∧ h = H :=
  sym_does (fuel := 100000) (n := 300) nmixed nplain op3known_good ngof (by kernel_rfl) (fun Q => by kernel_rfl) (fun _ => rfl) H

end Go.Proofs.YtnnlgafmpobdhaaGreatDoor
