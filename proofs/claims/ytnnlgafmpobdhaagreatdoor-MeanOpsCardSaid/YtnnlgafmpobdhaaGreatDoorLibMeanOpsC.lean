/-
  Own library of this claim, part 7: texts one behind the other (MnP1).
-/
import Derived.Test.YtnnlgafmpobdhaaGreatDoorLibMeanOpsB

/-
  MeanOps's programs: what mean.Text answers on a row of two unknown numbers.
-/

namespace Go.Proofs.YtnnlgafmpobdhaaGreatDoor
open Go Go.Abs Go.RowKit
set_option maxRecDepth 100000

def op4text : List UInt8 := [110,111,100,101,32,102,40,97,44,32,98,58,32,105,110,116,41,32,114,101,116,117,114,110,115,32,40,121,58,32,105,110,116,59,32,122,58,32,105,110,116,41,59,32,108,101,116,32,121,32,61,32,97,32,109,111,100,32,98,59,32,122,32,61,32,45,32,97,59,32,116,101,108]
def op4nodes : AV := .vsl [.str [102], .vsl [.str [97], .int .i64 2, .str [], .bool false, .int .i64 7, .str [98], .int .i64 2, .str [], .bool false, .int .i64 10] 2, .vsl [.str [121], .int .i64 2, .str [], .bool false, .int .i64 27, .str [122], .int .i64 2, .str [], .bool false, .int .i64 35] 2, .nilsl, .vsl [.str [121], .str [109,111,100], .str [], .int .i64 0, .int .i64 54, .vsl [.str [118,97,114], .str [97], .int .i64 0, .int .i64 52, .nilsl, .str [118,97,114], .str [98], .int .i64 0, .int .i64 58, .nilsl] 2, .int .i64 48, .str [122], .str [110,101,103], .str [], .int .i64 0, .int .i64 65, .vsl [.str [118,97,114], .str [97], .int .i64 0, .int .i64 67, .nilsl] 1, .int .i64 61] 2, .int .i64 0] 1
def op4ok : AV := .agg [.int .i64 0, .int .i64 0]
def op4lit : AV := .tuple [op4nodes, op4ok]
theorem op4parse_run : fcall knownW Tryz.prog (Gof tab) 100000 300 18 [.str op4text] FH.empty (litK op4lit) = true := by kernel_rfl
theorem op4parse (H : AHeap) : Does Tryz.prog (Gof tab) 18 [.str op4text] H fun r h => r = op4lit ∧ h = H :=
  lit_does nmixed nplain knownW_good ngof (by kernel_rfl) (by kernel_rfl) op4parse_run H
theorem op4tree_run : fcall knownW Tryz.prog (Gof tab) 100000 300 19 [op4nodes] FH.empty (litK op4ok) = true := by kernel_rfl
theorem op4tree (H : AHeap) : Does Tryz.prog (Gof tab) 19 [op4nodes] H fun r h => r = op4ok ∧ h = H :=
  lit_does nmixed nplain knownW_good ngof (by kernel_rfl) (by kernel_rfl) op4tree_run H
noncomputable def op4known : Ov := ovAdd 69 (opOv [109, 111, 100] opF4) (ovAdd 18 (litOv [([.str op4text], op4lit)]) (ovAdd 19 (litOv [([op4nodes], op4ok)]) knownW))
theorem op4known_good : OvGoodK Tryz.prog (Gof tab) op4known := ovAdd_good (opOv_good fun a b H => m_op4 a b H) (ovAdd_good (litOv_good fun e he H => by
  simp only [List.mem_cons, List.not_mem_nil, or_false] at he
  subst he
  exact op4parse H) (ovAdd_good (litOv_good fun e he H => by
  simp only [List.mem_cons, List.not_mem_nil, or_false] at he
  subst he
  exact op4tree H) knownW_good))
theorem op4does (a b : Int) (H : AHeap) : Does Tryz.prog (Gof tab) 11 [.str op4text, .vsl [.vsl [.int .i64 a, .int .i64 b] 2] 1] H fun r h => r = .tuple [.vsl [.vsl [.int .i64 (opF4 a b), .int .i64 (IntKind.i64.wrap (0 - a))] 2] 1, op4ok] ∧ h = H :=
  sym_does (fuel := 100000) (n := 300) nmixed nplain op4known_good ngof (by kernel_rfl) (fun Q => by kernel_rfl) (fun _ => rfl) H

def op5text : List UInt8 := [110,111,100,101,32,102,40,97,44,32,98,58,32,105,110,116,41,32,114,101,116,117,114,110,115,32,40,121,58,32,98,111,111,108,59,32,122,58,32,105,110,116,41,59,32,108,101,116,32,121,32,61,32,97,32,61,32,98,59,32,122,32,61,32,45,32,97,59,32,116,101,108]
def op5nodes : AV := .vsl [.str [102], .vsl [.str [97], .int .i64 2, .str [], .bool false, .int .i64 7, .str [98], .int .i64 2, .str [], .bool false, .int .i64 10] 2, .vsl [.str [121], .int .i64 1, .str [], .bool false, .int .i64 27, .str [122], .int .i64 2, .str [], .bool false, .int .i64 36] 2, .nilsl, .vsl [.str [121], .str [61], .str [], .int .i64 0, .int .i64 55, .vsl [.str [118,97,114], .str [97], .int .i64 0, .int .i64 53, .nilsl, .str [118,97,114], .str [98], .int .i64 0, .int .i64 57, .nilsl] 2, .int .i64 49, .str [122], .str [110,101,103], .str [], .int .i64 0, .int .i64 64, .vsl [.str [118,97,114], .str [97], .int .i64 0, .int .i64 66, .nilsl] 1, .int .i64 60] 2, .int .i64 0] 1
def op5ok : AV := .agg [.int .i64 0, .int .i64 0]
def op5lit : AV := .tuple [op5nodes, op5ok]
theorem op5parse_run : fcall knownW Tryz.prog (Gof tab) 100000 300 18 [.str op5text] FH.empty (litK op5lit) = true := by kernel_rfl
theorem op5parse (H : AHeap) : Does Tryz.prog (Gof tab) 18 [.str op5text] H fun r h => r = op5lit ∧ h = H :=
  lit_does nmixed nplain knownW_good ngof (by kernel_rfl) (by kernel_rfl) op5parse_run H
theorem op5tree_run : fcall knownW Tryz.prog (Gof tab) 100000 300 19 [op5nodes] FH.empty (litK op5ok) = true := by kernel_rfl
theorem op5tree (H : AHeap) : Does Tryz.prog (Gof tab) 19 [op5nodes] H fun r h => r = op5ok ∧ h = H :=
  lit_does nmixed nplain knownW_good ngof (by kernel_rfl) (by kernel_rfl) op5tree_run H
noncomputable def op5known : Ov := ovAdd 69 (opOv [61] opF5) (ovAdd 18 (litOv [([.str op5text], op5lit)]) (ovAdd 19 (litOv [([op5nodes], op5ok)]) knownW))
theorem op5known_good : OvGoodK Tryz.prog (Gof tab) op5known := ovAdd_good (opOv_good fun a b H => m_op5 a b H) (ovAdd_good (litOv_good fun e he H => by
  simp only [List.mem_cons, List.not_mem_nil, or_false] at he
  subst he
  exact op5parse H) (ovAdd_good (litOv_good fun e he H => by
  simp only [List.mem_cons, List.not_mem_nil, or_false] at he
  subst he
  exact op5tree H) knownW_good))
theorem op5does (a b : Int) (H : AHeap) : Does Tryz.prog (Gof tab) 11 [.str op5text, .vsl [.vsl [.int .i64 a, .int .i64 b] 2] 1] H fun r h => r = .tuple [.vsl [.vsl [.int .i64 (opF5 a b), .int .i64 (IntKind.i64.wrap (0 - a))] 2] 1, op5ok] ∧ h = H :=
  sym_does (fuel := 100000) (n := 300) nmixed nplain op5known_good ngof (by kernel_rfl) (fun Q => by kernel_rfl) (fun _ => rfl) H

def op6text : List UInt8 := [110,111,100,101,32,102,40,97,44,32,98,58,32,105,110,116,41,32,114,101,116,117,114,110,115,32,40,121,58,32,98,111,111,108,59,32,122,58,32,105,110,116,41,59,32,108,101,116,32,121,32,61,32,97,32,60,62,32,98,59,32,122,32,61,32,45,32,97,59,32,116,101,108]
def op6nodes : AV := .vsl [.str [102], .vsl [.str [97], .int .i64 2, .str [], .bool false, .int .i64 7, .str [98], .int .i64 2, .str [], .bool false, .int .i64 10] 2, .vsl [.str [121], .int .i64 1, .str [], .bool false, .int .i64 27, .str [122], .int .i64 2, .str [], .bool false, .int .i64 36] 2, .nilsl, .vsl [.str [121], .str [60,62], .str [], .int .i64 0, .int .i64 55, .vsl [.str [118,97,114], .str [97], .int .i64 0, .int .i64 53, .nilsl, .str [118,97,114], .str [98], .int .i64 0, .int .i64 58, .nilsl] 2, .int .i64 49, .str [122], .str [110,101,103], .str [], .int .i64 0, .int .i64 65, .vsl [.str [118,97,114], .str [97], .int .i64 0, .int .i64 67, .nilsl] 1, .int .i64 61] 2, .int .i64 0] 1
def op6ok : AV := .agg [.int .i64 0, .int .i64 0]
def op6lit : AV := .tuple [op6nodes, op6ok]
theorem op6parse_run : fcall knownW Tryz.prog (Gof tab) 100000 300 18 [.str op6text] FH.empty (litK op6lit) = true := by kernel_rfl
theorem op6parse (H : AHeap) : Does Tryz.prog (Gof tab) 18 [.str op6text] H fun r h => r = op6lit ∧ h = H :=
  lit_does nmixed nplain knownW_good ngof (by kernel_rfl) (by kernel_rfl) op6parse_run H
theorem op6tree_run : fcall knownW Tryz.prog (Gof tab) 100000 300 19 [op6nodes] FH.empty (litK op6ok) = true := by kernel_rfl
theorem op6tree (H : AHeap) : Does Tryz.prog (Gof tab) 19 [op6nodes] H fun r h => r = op6ok ∧ h = H :=
  lit_does nmixed nplain knownW_good ngof (by kernel_rfl) (by kernel_rfl) op6tree_run H
noncomputable def op6known : Ov := ovAdd 69 (opOv [60, 62] opF6) (ovAdd 18 (litOv [([.str op6text], op6lit)]) (ovAdd 19 (litOv [([op6nodes], op6ok)]) knownW))
theorem op6known_good : OvGoodK Tryz.prog (Gof tab) op6known := ovAdd_good (opOv_good fun a b H => m_op6 a b H) (ovAdd_good (litOv_good fun e he H => by
  simp only [List.mem_cons, List.not_mem_nil, or_false] at he
  subst he
  exact op6parse H) (ovAdd_good (litOv_good fun e he H => by
  simp only [List.mem_cons, List.not_mem_nil, or_false] at he
  subst he
  exact op6tree H) knownW_good))
theorem op6does (a b : Int) (H : AHeap) : Does Tryz.prog (Gof tab) 11 [.str op6text, .vsl [.vsl [.int .i64 a, .int .i64 b] 2] 1] H fun r h => r = .tuple [.vsl [.vsl [.int .i64 (opF6 a b), .int .i64 (IntKind.i64.wrap (0 - a))] 2] 1, op6ok] ∧ h = H :=
  sym_does (fuel := 100000) (n := 300) nmixed nplain op6known_good ngof (by kernel_rfl) (fun Q => by kernel_rfl) (fun _ => rfl) H

def op7text : List UInt8 := [110,111,100,101,32,102,40,97,44,32,98,58,32,105,110,116,41,32,114,101,116,117,114,110,115,32,40,121,58,32,98,111,111,108,59,32,122,58,32,105,110,116,41,59,32,108,101,116,32,121,32,61,32,97,32,60,32,98,59,32,122,32,61,32,45,32,97,59,32,116,101,108]
def op7nodes : AV := .vsl [.str [102], .vsl [.str [97], .int .i64 2, .str [], .bool false, .int .i64 7, .str [98], .int .i64 2, .str [], .bool false, .int .i64 10] 2, .vsl [.str [121], .int .i64 1, .str [], .bool false, .int .i64 27, .str [122], .int .i64 2, .str [], .bool false, .int .i64 36] 2, .nilsl, .vsl [.str [121], .str [60], .str [], .int .i64 0, .int .i64 55, .vsl [.str [118,97,114], .str [97], .int .i64 0, .int .i64 53, .nilsl, .str [118,97,114], .str [98], .int .i64 0, .int .i64 57, .nilsl] 2, .int .i64 49, .str [122], .str [110,101,103], .str [], .int .i64 0, .int .i64 64, .vsl [.str [118,97,114], .str [97], .int .i64 0, .int .i64 66, .nilsl] 1, .int .i64 60] 2, .int .i64 0] 1
def op7ok : AV := .agg [.int .i64 0, .int .i64 0]
def op7lit : AV := .tuple [op7nodes, op7ok]
theorem op7parse_run : fcall knownW Tryz.prog (Gof tab) 100000 300 18 [.str op7text] FH.empty (litK op7lit) = true := by kernel_rfl
theorem op7parse (H : AHeap) : Does Tryz.prog (Gof tab) 18 [.str op7text] H fun r h => r = op7lit ∧ h = H :=
  lit_does nmixed nplain knownW_good ngof (by kernel_rfl) (by kernel_rfl) op7parse_run H
theorem op7tree_run : fcall knownW Tryz.prog (Gof tab) 100000 300 19 [op7nodes] FH.empty (litK op7ok) = true := by kernel_rfl
theorem op7tree (H : AHeap) : Does Tryz.prog (Gof tab) 19 [op7nodes] H fun r h => r = op7ok ∧ h = H :=
  lit_does nmixed nplain knownW_good ngof (by kernel_rfl) (by kernel_rfl) op7tree_run H
noncomputable def op7known : Ov := ovAdd 69 (opOv [60] opF7) (ovAdd 18 (litOv [([.str op7text], op7lit)]) (ovAdd 19 (litOv [([op7nodes], op7ok)]) knownW))
theorem op7known_good : OvGoodK Tryz.prog (Gof tab) op7known := ovAdd_good (opOv_good fun a b H => m_op7 a b H) (ovAdd_good (litOv_good fun e he H => by
  simp only [List.mem_cons, List.not_mem_nil, or_false] at he
  subst he
  exact op7parse H) (ovAdd_good (litOv_good fun e he H => by
  simp only [List.mem_cons, List.not_mem_nil, or_false] at he
  subst he
  exact op7tree H) knownW_good))
theorem op7does (a b : Int) (H : AHeap) : Does Tryz.prog (Gof tab) 11 [.str op7text, .vsl [.vsl [.int .i64 a, .int .i64 b] 2] 1] H fun r h => r = .tuple [.vsl [.vsl [.int .i64 (opF7 a b), .int .i64 (IntKind.i64.wrap (0 - a))] 2] 1, op7ok] ∧ h = H :=
  sym_does (fuel := 100000) (n := 300) nmixed nplain op7known_good ngof (by kernel_rfl) (fun Q => by kernel_rfl) (fun _ => rfl) H

end Go.Proofs.YtnnlgafmpobdhaaGreatDoor
