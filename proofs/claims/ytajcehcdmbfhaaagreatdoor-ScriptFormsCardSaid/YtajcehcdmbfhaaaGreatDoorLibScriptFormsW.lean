/-
  Own library of this claim, part 37: texts one behind the other (SfC).
-/
import Derived.Test.YtajcehcdmbfhaaaGreatDoorLibScriptFormsQ
import Derived.Test.YtajcehcdmbfhaaaGreatDoorLibScriptFormsV
set_option linter.unusedVariables false
set_option linter.unusedSimpArgs false

/-
  The scripts that are played, each cut into a program and its lines.
-/


namespace Go.Proofs.YtajcehcdmbfhaaaGreatDoor
open Go Go.Abs Go.RowKit
set_option maxRecDepth 100000

def sfT0 : List UInt8 := [110,111,100,101,32,102,40,120,58,32,105,110,116,41,32,114,101,116,117,114,110,115,32,40,115,58,32,105,110,116,41,59,32,108,101,116,32,115,32,61,32,120,32,43,32,40,48,32,102,98,121,32,115,41,59,32,116,101,108,10,45,45,45,10,102,108,101,101,116,32,49,10,102,108,101,101,116,32,49,10]
def sfR0 : AV := .tuple [.str (oneP ++ [10]), .vsl [.str [102,108,101,101,116,32,49],.str [102,108,101,101,116,32,49]] 2]
theorem sfS0 (H : AHeap) : Does Tryz.prog (Gof tab) 8 [.str sfT0] H fun r h => r = sfR0 ∧ h = H := by
  have e : withL oneP (textF (lineF 0)) = sfT0 := by kernel_rfl
  have e2 : rowsL (textF (lineF 0)) = .vsl [.str [102,108,101,101,116,32,49],.str [102,108,101,101,116,32,49]] 2 := by kernel_rfl
  have h := split_with (G := Gof tab) (p := oneP) (by decide) (by decide) (textF_ne (lineF 0)) (Nat.le_of_ble_eq_true (by kernel_rfl)) H
  rw [e, e2] at h
  exact h
def sfT1 : List UInt8 := [110,111,100,101,32,102,40,120,58,32,105,110,116,41,32,114,101,116,117,114,110,115,32,40,115,58,32,105,110,116,41,59,32,108,101,116,32,115,32,61,32,120,32,43,32,40,48,32,102,98,121,32,115,41,59,32,116,101,108,10,45,45,45,10,102,108,101,101,116,32,49,10,112,97,115,115,32,48,32,53,10]
def sfR1 : AV := .tuple [.str (oneP ++ [10]), .vsl [.str [102,108,101,101,116,32,49],.str [112,97,115,115,32,48,32,53]] 2]
theorem sfS1 (H : AHeap) : Does Tryz.prog (Gof tab) 8 [.str sfT1] H fun r h => r = sfR1 ∧ h = H := by
  have e : withL oneP (textF (lineF 1)) = sfT1 := by kernel_rfl
  have e2 : rowsL (textF (lineF 1)) = .vsl [.str [102,108,101,101,116,32,49],.str [112,97,115,115,32,48,32,53]] 2 := by kernel_rfl
  have h := split_with (G := Gof tab) (p := oneP) (by decide) (by decide) (textF_ne (lineF 1)) (Nat.le_of_ble_eq_true (by kernel_rfl)) H
  rw [e, e2] at h
  exact h
def sfT2 : List UInt8 := [110,111,100,101,32,102,40,120,58,32,105,110,116,41,32,114,101,116,117,114,110,115,32,40,115,58,32,105,110,116,41,59,32,108,101,116,32,115,32,61,32,120,32,43,32,40,48,32,102,98,121,32,115,41,59,32,116,101,108,10,45,45,45,10,102,108,101,101,116,32,49,10,100,101,108,105,118,101,114,32,48,10]
def sfR2 : AV := .tuple [.str (oneP ++ [10]), .vsl [.str [102,108,101,101,116,32,49],.str [100,101,108,105,118,101,114,32,48]] 2]
theorem sfS2 (H : AHeap) : Does Tryz.prog (Gof tab) 8 [.str sfT2] H fun r h => r = sfR2 ∧ h = H := by
  have e : withL oneP (textF (lineF 2)) = sfT2 := by kernel_rfl
  have e2 : rowsL (textF (lineF 2)) = .vsl [.str [102,108,101,101,116,32,49],.str [100,101,108,105,118,101,114,32,48]] 2 := by kernel_rfl
  have h := split_with (G := Gof tab) (p := oneP) (by decide) (by decide) (textF_ne (lineF 2)) (Nat.le_of_ble_eq_true (by kernel_rfl)) H
  rw [e, e2] at h
  exact h
def sfT3 : List UInt8 := [110,111,100,101,32,102,40,120,58,32,105,110,116,41,32,114,101,116,117,114,110,115,32,40,115,58,32,105,110,116,41,59,32,108,101,116,32,115,32,61,32,120,32,43,32,40,48,32,102,98,121,32,115,41,59,32,116,101,108,10,45,45,45,10,102,108,101,101,116,32,49,10,108,111,115,101,32,48,10]
def sfR3 : AV := .tuple [.str (oneP ++ [10]), .vsl [.str [102,108,101,101,116,32,49],.str [108,111,115,101,32,48]] 2]
theorem sfS3 (H : AHeap) : Does Tryz.prog (Gof tab) 8 [.str sfT3] H fun r h => r = sfR3 ∧ h = H := by
  have e : withL oneP (textF (lineF 3)) = sfT3 := by kernel_rfl
  have e2 : rowsL (textF (lineF 3)) = .vsl [.str [102,108,101,101,116,32,49],.str [108,111,115,101,32,48]] 2 := by kernel_rfl
  have h := split_with (G := Gof tab) (p := oneP) (by decide) (by decide) (textF_ne (lineF 3)) (Nat.le_of_ble_eq_true (by kernel_rfl)) H
  rw [e, e2] at h
  exact h
def sfT4 : List UInt8 := [110,111,100,101,32,102,40,120,58,32,105,110,116,41,32,114,101,116,117,114,110,115,32,40,115,58,32,105,110,116,41,59,32,108,101,116,32,115,32,61,32,120,32,43,32,40,48,32,102,98,121,32,115,41,59,32,116,101,108,10,45,45,45,10,102,108,101,101,116,32,49,10,100,111,117,98,108,101,32,48,10]
def sfR4 : AV := .tuple [.str (oneP ++ [10]), .vsl [.str [102,108,101,101,116,32,49],.str [100,111,117,98,108,101,32,48]] 2]
theorem sfS4 (H : AHeap) : Does Tryz.prog (Gof tab) 8 [.str sfT4] H fun r h => r = sfR4 ∧ h = H := by
  have e : withL oneP (textF (lineF 4)) = sfT4 := by kernel_rfl
  have e2 : rowsL (textF (lineF 4)) = .vsl [.str [102,108,101,101,116,32,49],.str [100,111,117,98,108,101,32,48]] 2 := by kernel_rfl
  have h := split_with (G := Gof tab) (p := oneP) (by decide) (by decide) (textF_ne (lineF 4)) (Nat.le_of_ble_eq_true (by kernel_rfl)) H
  rw [e, e2] at h
  exact h
def sfT5 : List UInt8 := [110,111,100,101,32,102,40,120,58,32,105,110,116,41,32,114,101,116,117,114,110,115,32,40,115,58,32,105,110,116,41,59,32,108,101,116,32,115,32,61,32,120,32,43,32,40,48,32,102,98,121,32,115,41,59,32,116,101,108,10,45,45,45,10,102,108,101,101,116,32,49,10,99,114,97,115,104,32,48,32,51,10]
def sfR5 : AV := .tuple [.str (oneP ++ [10]), .vsl [.str [102,108,101,101,116,32,49],.str [99,114,97,115,104,32,48,32,51]] 2]
theorem sfS5 (H : AHeap) : Does Tryz.prog (Gof tab) 8 [.str sfT5] H fun r h => r = sfR5 ∧ h = H := by
  have e : withL oneP (textF (lineF 5)) = sfT5 := by kernel_rfl
  have e2 : rowsL (textF (lineF 5)) = .vsl [.str [102,108,101,101,116,32,49],.str [99,114,97,115,104,32,48,32,51]] 2 := by kernel_rfl
  have h := split_with (G := Gof tab) (p := oneP) (by decide) (by decide) (textF_ne (lineF 5)) (Nat.le_of_ble_eq_true (by kernel_rfl)) H
  rw [e, e2] at h
  exact h
def sfT6 : List UInt8 := [110,111,100,101,32,102,40,120,58,32,105,110,116,41,32,114,101,116,117,114,110,115,32,40,115,58,32,105,110,116,41,59,32,108,101,116,32,115,32,61,32,120,32,43,32,40,48,32,102,98,121,32,115,41,59,32,116,101,108,10,45,45,45,10,102,108,101,101,116,32,49,10,117,112,32,48,10]
def sfR6 : AV := .tuple [.str (oneP ++ [10]), .vsl [.str [102,108,101,101,116,32,49],.str [117,112,32,48]] 2]
theorem sfS6 (H : AHeap) : Does Tryz.prog (Gof tab) 8 [.str sfT6] H fun r h => r = sfR6 ∧ h = H := by
  have e : withL oneP (textF (lineF 6)) = sfT6 := by kernel_rfl
  have e2 : rowsL (textF (lineF 6)) = .vsl [.str [102,108,101,101,116,32,49],.str [117,112,32,48]] 2 := by kernel_rfl
  have h := split_with (G := Gof tab) (p := oneP) (by decide) (by decide) (textF_ne (lineF 6)) (Nat.le_of_ble_eq_true (by kernel_rfl)) H
  rw [e, e2] at h
  exact h
def sfT7 : List UInt8 := [110,111,100,101,32,102,40,120,58,32,105,110,116,41,32,114,101,116,117,114,110,115,32,40,115,58,32,105,110,116,41,59,32,108,101,116,32,115,32,61,32,120,32,43,32,40,48,32,102,98,121,32,115,41,59,32,116,101,108,10,45,45,45,10,102,108,101,101,116,32,49,10,115,97,118,101,32,48,10]
def sfR7 : AV := .tuple [.str (oneP ++ [10]), .vsl [.str [102,108,101,101,116,32,49],.str [115,97,118,101,32,48]] 2]
theorem sfS7 (H : AHeap) : Does Tryz.prog (Gof tab) 8 [.str sfT7] H fun r h => r = sfR7 ∧ h = H := by
  have e : withL oneP (textF (lineF 7)) = sfT7 := by kernel_rfl
  have e2 : rowsL (textF (lineF 7)) = .vsl [.str [102,108,101,101,116,32,49],.str [115,97,118,101,32,48]] 2 := by kernel_rfl
  have h := split_with (G := Gof tab) (p := oneP) (by decide) (by decide) (textF_ne (lineF 7)) (Nat.le_of_ble_eq_true (by kernel_rfl)) H
  rw [e, e2] at h
  exact h
def sfT8 : List UInt8 := [110,111,100,101,32,102,40,120,58,32,105,110,116,41,32,114,101,116,117,114,110,115,32,40,115,58,32,105,110,116,41,59,32,108,101,116,32,115,32,61,32,120,32,43,32,40,48,32,102,98,121,32,115,41,59,32,116,101,108,10,45,45,45,10,102,108,101,101,116,32,49,10,111,117,116,115,32,48,10]
def sfR8 : AV := .tuple [.str (oneP ++ [10]), .vsl [.str [102,108,101,101,116,32,49],.str [111,117,116,115,32,48]] 2]
theorem sfS8 (H : AHeap) : Does Tryz.prog (Gof tab) 8 [.str sfT8] H fun r h => r = sfR8 ∧ h = H := by
  have e : withL oneP (textF (lineF 8)) = sfT8 := by kernel_rfl
  have e2 : rowsL (textF (lineF 8)) = .vsl [.str [102,108,101,101,116,32,49],.str [111,117,116,115,32,48]] 2 := by kernel_rfl
  have h := split_with (G := Gof tab) (p := oneP) (by decide) (by decide) (textF_ne (lineF 8)) (Nat.le_of_ble_eq_true (by kernel_rfl)) H
  rw [e, e2] at h
  exact h
def sfT9 : List UInt8 := [110,111,100,101,32,102,40,120,58,32,105,110,116,41,32,114,101,116,117,114,110,115,32,40,115,58,32,105,110,116,41,59,32,108,101,116,32,115,32,61,32,120,32,43,32,40,48,32,102,98,121,32,115,41,59,32,116,101,108,10,45,45,45,10,102,108,101,101,116,32,49,10,110,101,116,10]
def sfR9 : AV := .tuple [.str (oneP ++ [10]), .vsl [.str [102,108,101,101,116,32,49],.str [110,101,116]] 2]
theorem sfS9 (H : AHeap) : Does Tryz.prog (Gof tab) 8 [.str sfT9] H fun r h => r = sfR9 ∧ h = H := by
  have e : withL oneP (textF (lineF 9)) = sfT9 := by kernel_rfl
  have e2 : rowsL (textF (lineF 9)) = .vsl [.str [102,108,101,101,116,32,49],.str [110,101,116]] 2 := by kernel_rfl
  have h := split_with (G := Gof tab) (p := oneP) (by decide) (by decide) (textF_ne (lineF 9)) (Nat.le_of_ble_eq_true (by kernel_rfl)) H
  rw [e, e2] at h
  exact h
def sfT10 : List UInt8 := [110,111,100,101,32,102,40,120,58,32,105,110,116,41,32,114,101,116,117,114,110,115,32,40,115,58,32,105,110,116,41,59,32,108,101,116,32,115,32,61,32,120,32,43,32,40,48,32,102,98,121,32,115,41,59,32,116,101,108,10,45,45,45,10,102,108,101,101,116,32,49,10,99,111,100,101,10]
def sfR10 : AV := .tuple [.str (oneP ++ [10]), .vsl [.str [102,108,101,101,116,32,49],.str [99,111,100,101]] 2]
theorem sfS10 (H : AHeap) : Does Tryz.prog (Gof tab) 8 [.str sfT10] H fun r h => r = sfR10 ∧ h = H := by
  have e : withL oneP (textF (lineF 10)) = sfT10 := by kernel_rfl
  have e2 : rowsL (textF (lineF 10)) = .vsl [.str [102,108,101,101,116,32,49],.str [99,111,100,101]] 2 := by kernel_rfl
  have h := split_with (G := Gof tab) (p := oneP) (by decide) (by decide) (textF_ne (lineF 10)) (Nat.le_of_ble_eq_true (by kernel_rfl)) H
  rw [e, e2] at h
  exact h
noncomputable def knownT0 : Ov := ovAdd 8 (litOv [([.str sfT0], sfR0), ([.str sfT1], sfR1), ([.str sfT2], sfR2), ([.str sfT3], sfR3), ([.str sfT4], sfR4), ([.str sfT5], sfR5), ([.str sfT6], sfR6), ([.str sfT7], sfR7), ([.str sfT8], sfR8), ([.str sfT9], sfR9), ([.str sfT10], sfR10)]) knownTz
theorem knownT0_good : OvGoodK Tryz.prog (Gof tab) knownT0 := ovAdd_good (litOv_good fun e he H => by
  simp only [List.mem_cons, List.not_mem_nil, or_false] at he
  rcases he with rfl | rfl | rfl | rfl | rfl | rfl | rfl | rfl | rfl | rfl | rfl
  · exact sfS0 H
  · exact sfS1 H
  · exact sfS2 H
  · exact sfS3 H
  · exact sfS4 H
  · exact sfS5 H
  · exact sfS6 H
  · exact sfS7 H
  · exact sfS8 H
  · exact sfS9 H
  · exact sfS10 H) knownTz_good
end Go.Proofs.YtajcehcdmbfhaaaGreatDoor
