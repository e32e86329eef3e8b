/-
  Own library of this claim, part 8: texts one behind the other (MnP2).
-/
import Derived.Test.YtnnlgafmpobdhaaGreatDoorLibMeanOpsC

/-
  MeanOps's programs: what mean.Text answers on a row of two unknown numbers.
-/

namespace Go.Proofs.YtnnlgafmpobdhaaGreatDoor
open Go Go.Abs Go.RowKit
set_option maxRecDepth 100000

def op8text : List UInt8 := [110,111,100,101,32,102,40,97,44,32,98,58,32,105,110,116,41,32,114,101,116,117,114,110,115,32,40,121,58,32,98,111,111,108,59,32,122,58,32,105,110,116,41,59,32,108,101,116,32,121,32,61,32,97,32,60,61,32,98,59,32,122,32,61,32,45,32,97,59,32,116,101,108]
def op8nodes : AV := .vsl [.str [102], .vsl [.str [97], .int .i64 2, .str [], .bool false, .int .i64 7, .str [98], .int .i64 2, .str [], .bool false, .int .i64 10] 2, .vsl [.str [121], .int .i64 1, .str [], .bool false, .int .i64 27, .str [122], .int .i64 2, .str [], .bool false, .int .i64 36] 2, .nilsl, .vsl [.str [121], .str [60,61], .str [], .int .i64 0, .int .i64 55, .vsl [.str [118,97,114], .str [97], .int .i64 0, .int .i64 53, .nilsl, .str [118,97,114], .str [98], .int .i64 0, .int .i64 58, .nilsl] 2, .int .i64 49, .str [122], .str [110,101,103], .str [], .int .i64 0, .int .i64 65, .vsl [.str [118,97,114], .str [97], .int .i64 0, .int .i64 67, .nilsl] 1, .int .i64 61] 2, .int .i64 0] 1
def op8ok : AV := .agg [.int .i64 0, .int .i64 0]
def op8lit : AV := .tuple [op8nodes, op8ok]
theorem op8parse_run : fcall knownW Tryz.prog (Gof tab) 100000 300 18 [.str op8text] FH.empty (litK op8lit) = true := by kernel_rfl
theorem op8parse (H : AHeap) : Does Tryz.prog (Gof tab) 18 [.str op8text] H fun r h => r = op8lit ∧ h = H :=
  lit_does nmixed nplain knownW_good ngof (by kernel_rfl) (by kernel_rfl) op8parse_run H
theorem op8tree_run : fcall knownW Tryz.prog (Gof tab) 100000 300 19 [op8nodes] FH.empty (litK op8ok) = true := by kernel_rfl
theorem op8tree (H : AHeap) : Does Tryz.prog (Gof tab) 19 [op8nodes] H fun r h => r = op8ok ∧ h = H :=
  lit_does nmixed nplain knownW_good ngof (by kernel_rfl) (by kernel_rfl) op8tree_run H
noncomputable def op8known : Ov := ovAdd 69 (opOv [60, 61] opF8) (ovAdd 18 (litOv [([.str op8text], op8lit)]) (ovAdd 19 (litOv [([op8nodes], op8ok)]) knownW))
theorem op8known_good : OvGoodK Tryz.prog (Gof tab) op8known := ovAdd_good (opOv_good fun a b H => m_op8 a b H) (ovAdd_good (litOv_good fun e he H => by
  simp only [List.mem_cons, List.not_mem_nil, or_false] at he
  subst he
  exact op8parse H) (ovAdd_good (litOv_good fun e he H => by
  simp only [List.mem_cons, List.not_mem_nil, or_false] at he
  subst he
  exact op8tree H) knownW_good))
theorem op8does (a b : Int) (H : AHeap) : Does Tryz.prog (Gof tab) 11 [.str op8text, .vsl [.vsl [.int .i64 a, .int .i64 b] 2] 1] H fun r h => r = .tuple [.vsl [.vsl [.int .i64 (opF8 a b), .int .i64 (IntKind.i64.wrap (0 - a))] 2] 1, op8ok] ∧ h = H :=
  sym_does (fuel := 100000) (n := 300) nmixed nplain op8known_good ngof (by kernel_rfl) (fun Q => by kernel_rfl) (fun _ => rfl) H

def op9text : List UInt8 := [110,111,100,101,32,102,40,97,44,32,98,58,32,105,110,116,41,32,114,101,116,117,114,110,115,32,40,121,58,32,98,111,111,108,59,32,122,58,32,105,110,116,41,59,32,108,101,116,32,121,32,61,32,97,32,62,32,98,59,32,122,32,61,32,45,32,97,59,32,116,101,108]
def op9nodes : AV := .vsl [.str [102], .vsl [.str [97], .int .i64 2, .str [], .bool false, .int .i64 7, .str [98], .int .i64 2, .str [], .bool false, .int .i64 10] 2, .vsl [.str [121], .int .i64 1, .str [], .bool false, .int .i64 27, .str [122], .int .i64 2, .str [], .bool false, .int .i64 36] 2, .nilsl, .vsl [.str [121], .str [62], .str [], .int .i64 0, .int .i64 55, .vsl [.str [118,97,114], .str [97], .int .i64 0, .int .i64 53, .nilsl, .str [118,97,114], .str [98], .int .i64 0, .int .i64 57, .nilsl] 2, .int .i64 49, .str [122], .str [110,101,103], .str [], .int .i64 0, .int .i64 64, .vsl [.str [118,97,114], .str [97], .int .i64 0, .int .i64 66, .nilsl] 1, .int .i64 60] 2, .int .i64 0] 1
def op9ok : AV := .agg [.int .i64 0, .int .i64 0]
def op9lit : AV := .tuple [op9nodes, op9ok]
theorem op9parse_run : fcall knownW Tryz.prog (Gof tab) 100000 300 18 [.str op9text] FH.empty (litK op9lit) = true := by kernel_rfl
theorem op9parse (H : AHeap) : Does Tryz.prog (Gof tab) 18 [.str op9text] H fun r h => r = op9lit ∧ h = H :=
  lit_does nmixed nplain knownW_good ngof (by kernel_rfl) (by kernel_rfl) op9parse_run H
theorem op9tree_run : fcall knownW Tryz.prog (Gof tab) 100000 300 19 [op9nodes] FH.empty (litK op9ok) = true := by kernel_rfl
theorem op9tree (H : AHeap) : Does Tryz.prog (Gof tab) 19 [op9nodes] H fun r h => r = op9ok ∧ h = H :=
  lit_does nmixed nplain knownW_good ngof (by kernel_rfl) (by kernel_rfl) op9tree_run H
noncomputable def op9known : Ov := ovAdd 69 (opOv [62] opF9) (ovAdd 18 (litOv [([.str op9text], op9lit)]) (ovAdd 19 (litOv [([op9nodes], op9ok)]) knownW))
theorem op9known_good : OvGoodK Tryz.prog (Gof tab) op9known := ovAdd_good (opOv_good fun a b H => m_op9 a b H) (ovAdd_good (litOv_good fun e he H => by
  simp only [List.mem_cons, List.not_mem_nil, or_false] at he
  subst he
  exact op9parse H) (ovAdd_good (litOv_good fun e he H => by
  simp only [List.mem_cons, List.not_mem_nil, or_false] at he
  subst he
  exact op9tree H) knownW_good))
theorem op9does (a b : Int) (H : AHeap) : Does Tryz.prog (Gof tab) 11 [.str op9text, .vsl [.vsl [.int .i64 a, .int .i64 b] 2] 1] H fun r h => r = .tuple [.vsl [.vsl [.int .i64 (opF9 a b), .int .i64 (IntKind.i64.wrap (0 - a))] 2] 1, op9ok] ∧ h = H :=
  sym_does (fuel := 100000) (n := 300) nmixed nplain op9known_good ngof (by kernel_rfl) (fun Q => by kernel_rfl) (fun _ => rfl) H

def op10text : List UInt8 := [110,111,100,101,32,102,40,97,44,32,98,58,32,105,110,116,41,32,114,101,116,117,114,110,115,32,40,121,58,32,98,111,111,108,59,32,122,58,32,105,110,116,41,59,32,108,101,116,32,121,32,61,32,97,32,62,61,32,98,59,32,122,32,61,32,45,32,97,59,32,116,101,108]
def op10nodes : AV := .vsl [.str [102], .vsl [.str [97], .int .i64 2, .str [], .bool false, .int .i64 7, .str [98], .int .i64 2, .str [], .bool false, .int .i64 10] 2, .vsl [.str [121], .int .i64 1, .str [], .bool false, .int .i64 27, .str [122], .int .i64 2, .str [], .bool false, .int .i64 36] 2, .nilsl, .vsl [.str [121], .str [62,61], .str [], .int .i64 0, .int .i64 55, .vsl [.str [118,97,114], .str [97], .int .i64 0, .int .i64 53, .nilsl, .str [118,97,114], .str [98], .int .i64 0, .int .i64 58, .nilsl] 2, .int .i64 49, .str [122], .str [110,101,103], .str [], .int .i64 0, .int .i64 65, .vsl [.str [118,97,114], .str [97], .int .i64 0, .int .i64 67, .nilsl] 1, .int .i64 61] 2, .int .i64 0] 1
def op10ok : AV := .agg [.int .i64 0, .int .i64 0]
def op10lit : AV := .tuple [op10nodes, op10ok]
theorem op10parse_run : fcall knownW Tryz.prog (Gof tab) 100000 300 18 [.str op10text] FH.empty (litK op10lit) = true := by kernel_rfl
theorem op10parse (H : AHeap) : Does Tryz.prog (Gof tab) 18 [.str op10text] H fun r h => r = op10lit ∧ h = H :=
  lit_does nmixed nplain knownW_good ngof (by kernel_rfl) (by kernel_rfl) op10parse_run H
theorem op10tree_run : fcall knownW Tryz.prog (Gof tab) 100000 300 19 [op10nodes] FH.empty (litK op10ok) = true := by kernel_rfl
theorem op10tree (H : AHeap) : Does Tryz.prog (Gof tab) 19 [op10nodes] H fun r h => r = op10ok ∧ h = H :=
  lit_does nmixed nplain knownW_good ngof (by kernel_rfl) (by kernel_rfl) op10tree_run H
noncomputable def op10known : Ov := ovAdd 69 (opOv [62, 61] opF10) (ovAdd 18 (litOv [([.str op10text], op10lit)]) (ovAdd 19 (litOv [([op10nodes], op10ok)]) knownW))
theorem op10known_good : OvGoodK Tryz.prog (Gof tab) op10known := ovAdd_good (opOv_good fun a b H => m_op10 a b H) (ovAdd_good (litOv_good fun e he H => by
  simp only [List.mem_cons, List.not_mem_nil, or_false] at he
  subst he
  exact op10parse H) (ovAdd_good (litOv_good fun e he H => by
  simp only [List.mem_cons, List.not_mem_nil, or_false] at he
  subst he
  exact op10tree H) knownW_good))
theorem op10does (a b : Int) (H : AHeap) : Does Tryz.prog (Gof tab) 11 [.str op10text, .vsl [.vsl [.int .i64 a, .int .i64 b] 2] 1] H fun r h => r = .tuple [.vsl [.vsl [.int .i64 (opF10 a b), .int .i64 (IntKind.i64.wrap (0 - a))] 2] 1, op10ok] ∧ h = H :=
  sym_does (fuel := 100000) (n := 300) nmixed nplain op10known_good ngof (by kernel_rfl) (fun Q => by kernel_rfl) (fun _ => rfl) H

end Go.Proofs.YtnnlgafmpobdhaaGreatDoor
