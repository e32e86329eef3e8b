/-
  Own library of this claim, part 5: texts one behind the other (MnO, MnP, MnOr).
-/
import Derived.Test.YtnnlgafmpobdhaaGreatDoorLibD

/-
  mean.Op, of any two numbers.
-/


namespace Go.Proofs.YtnnlgafmpobdhaaGreatDoor
open Go Go.Abs Go.Lex
set_option linter.unusedSimpArgs false
variable {G : Nat → Option AV}

theorem m_truth (b : Bool) (H : AHeap) : Does Tryz.prog G 68 [.bool b] H fun r h => r = .int .i64 (if b then 1 else 0) ∧ h = H := by
  refine does_f Tryz.call68 Tryz.func68 rfl (by simp [Tryz.f68]) ?_
  cases b <;> simp

set_option maxHeartbeats 4000000 in
set_option maxRecDepth 100000 in
theorem m_op0 (a b : Int) (H : AHeap) : Does Tryz.prog G 69 [.str [43], .int .i64 a, .int .i64 b] H fun r h => r = .int .i64 (IntKind.i64.wrap (a + b)) ∧ h = H := by
  refine does_f Tryz.call69 Tryz.func69 rfl (by simp [Tryz.f69]) ?_
  simp
set_option maxHeartbeats 4000000 in
set_option maxRecDepth 100000 in
theorem m_op1 (a b : Int) (H : AHeap) : Does Tryz.prog G 69 [.str [45], .int .i64 a, .int .i64 b] H fun r h => r = .int .i64 (IntKind.i64.wrap (a - b)) ∧ h = H := by
  refine does_f Tryz.call69 Tryz.func69 rfl (by simp [Tryz.f69]) ?_
  simp
set_option maxHeartbeats 4000000 in
set_option maxRecDepth 100000 in
theorem m_op2 (a b : Int) (H : AHeap) : Does Tryz.prog G 69 [.str [42], .int .i64 a, .int .i64 b] H fun r h => r = .int .i64 (IntKind.i64.wrap (a * b)) ∧ h = H := by
  refine does_f Tryz.call69 Tryz.func69 rfl (by simp [Tryz.f69]) ?_
  simp
set_option maxHeartbeats 4000000 in
set_option maxRecDepth 100000 in
theorem m_op3 (a b : Int) (H : AHeap) : Does Tryz.prog G 69 [.str [47], .int .i64 a, .int .i64 b] H fun r h => r = .int .i64 (if b = 0 then 0 else IntKind.i64.wrap (a.tdiv b)) ∧ h = H := by
  refine does_f Tryz.call69 Tryz.func69 rfl (by simp [Tryz.f69]) ?_
  by_cases hb : b = 0
  · subst hb; simp
  · have hb' : (b == 0) = false := by simp [hb]
    simp [hb, hb']
set_option maxHeartbeats 4000000 in
set_option maxRecDepth 100000 in
theorem m_op4 (a b : Int) (H : AHeap) : Does Tryz.prog G 69 [.str [109, 111, 100], .int .i64 a, .int .i64 b] H fun r h => r = .int .i64 (if b = 0 then 0 else a.tmod b) ∧ h = H := by
  refine does_f Tryz.call69 Tryz.func69 rfl (by simp [Tryz.f69]) ?_
  by_cases hb : b = 0
  · subst hb; simp
  · have hb' : (b == 0) = false := by simp [hb]
    simp [hb, hb']
set_option maxHeartbeats 4000000 in
set_option maxRecDepth 100000 in
theorem m_op5 (a b : Int) (H : AHeap) : Does Tryz.prog G 69 [.str [61], .int .i64 a, .int .i64 b] H fun r h => r = .int .i64 (if a = b then 1 else 0) ∧ h = H := by
  refine does_f Tryz.call69 Tryz.func69 rfl (by simp [Tryz.f69]) ?_
  simp
  refine does_use (m_truth _ _) ?_
  rintro _ HX ⟨rfl, hHX⟩
  rw [hHX]
  clear hHX HX
  simp
set_option maxHeartbeats 4000000 in
set_option maxRecDepth 100000 in
theorem m_op6 (a b : Int) (H : AHeap) : Does Tryz.prog G 69 [.str [60, 62], .int .i64 a, .int .i64 b] H fun r h => r = .int .i64 (if a ≠ b then 1 else 0) ∧ h = H := by
  refine does_f Tryz.call69 Tryz.func69 rfl (by simp [Tryz.f69]) ?_
  simp
  refine does_use (m_truth _ _) ?_
  rintro _ HX ⟨rfl, hHX⟩
  rw [hHX]
  clear hHX HX
  simp
set_option maxHeartbeats 4000000 in
set_option maxRecDepth 100000 in
theorem m_op7 (a b : Int) (H : AHeap) : Does Tryz.prog G 69 [.str [60], .int .i64 a, .int .i64 b] H fun r h => r = .int .i64 (if a < b then 1 else 0) ∧ h = H := by
  refine does_f Tryz.call69 Tryz.func69 rfl (by simp [Tryz.f69]) ?_
  simp
  refine does_use (m_truth _ _) ?_
  rintro _ HX ⟨rfl, hHX⟩
  rw [hHX]
  clear hHX HX
  simp
set_option maxHeartbeats 4000000 in
set_option maxRecDepth 100000 in
theorem m_op8 (a b : Int) (H : AHeap) : Does Tryz.prog G 69 [.str [60, 61], .int .i64 a, .int .i64 b] H fun r h => r = .int .i64 (if a ≤ b then 1 else 0) ∧ h = H := by
  refine does_f Tryz.call69 Tryz.func69 rfl (by simp [Tryz.f69]) ?_
  simp
  refine does_use (m_truth _ _) ?_
  rintro _ HX ⟨rfl, hHX⟩
  rw [hHX]
  clear hHX HX
  simp
set_option maxHeartbeats 4000000 in
set_option maxRecDepth 100000 in
theorem m_op9 (a b : Int) (H : AHeap) : Does Tryz.prog G 69 [.str [62], .int .i64 a, .int .i64 b] H fun r h => r = .int .i64 (if b < a then 1 else 0) ∧ h = H := by
  refine does_f Tryz.call69 Tryz.func69 rfl (by simp [Tryz.f69]) ?_
  simp
  refine does_use (m_truth _ _) ?_
  rintro _ HX ⟨rfl, hHX⟩
  rw [hHX]
  clear hHX HX
  simp
set_option maxHeartbeats 4000000 in
set_option maxRecDepth 100000 in
theorem m_op10 (a b : Int) (H : AHeap) : Does Tryz.prog G 69 [.str [62, 61], .int .i64 a, .int .i64 b] H fun r h => r = .int .i64 (if b ≤ a then 1 else 0) ∧ h = H := by
  refine does_f Tryz.call69 Tryz.func69 rfl (by simp [Tryz.f69]) ?_
  simp
  refine does_use (m_truth _ _) ?_
  rintro _ HX ⟨rfl, hHX⟩
  rw [hHX]
  clear hHX HX
  simp
end Go.Proofs.YtnnlgafmpobdhaaGreatDoor

/-
  MeanOps's programs: mean.Op known in the evaluator, its answer an unknown number.
-/


namespace Go.Proofs.YtnnlgafmpobdhaaGreatDoor
open Go Go.Abs Go.RowKit
set_option maxRecDepth 100000

noncomputable def opOv (s : List UInt8) (f : Int → Int → Int) (args : List AV) (H : FH) (k : AV → FH → Bool) : Bool := match args with
  | [.str t, .int .i64 a, .int .i64 b] => if t = s then k (.int .i64 (f a b)) H else false
  | _ => false
theorem opOv_good {s : List UInt8} {f : Int → Int → Int} (hf : ∀ a b H, Does Tryz.prog (Gof tab) 69 [.str s, .int .i64 a, .int .i64 b] H fun r h => r = .int .i64 (f a b) ∧ h = H) (args : List AV) (H : FH) (k : AV → FH → Bool) (h : opOv s f args H k = true) :
    ∃ v H', Does Tryz.prog (Gof tab) 69 args H.abs (fun r h => r = v ∧ h = FH.abs H') ∧ H.next ≤ H'.next ∧ k v H' = true := by
  unfold opOv at h
  split at h
  · rename_i t a b
    split at h
    · rename_i e
      subst e
      exact ⟨_, H, hf a b _, Nat.le_refl _, h⟩
    · simp at h
  · simp at h
def opF0 (a b : Int) : Int := IntKind.i64.wrap (a + b)
def opF1 (a b : Int) : Int := IntKind.i64.wrap (a - b)
def opF2 (a b : Int) : Int := IntKind.i64.wrap (a * b)
def opF3 (a b : Int) : Int := if b = 0 then 0 else IntKind.i64.wrap (a.tdiv b)
def opF4 (a b : Int) : Int := if b = 0 then 0 else a.tmod b
def opF5 (a b : Int) : Int := if a = b then 1 else 0
def opF6 (a b : Int) : Int := if a ≠ b then 1 else 0
def opF7 (a b : Int) : Int := if a < b then 1 else 0
def opF8 (a b : Int) : Int := if a ≤ b then 1 else 0
def opF9 (a b : Int) : Int := if b < a then 1 else 0
def opF10 (a b : Int) : Int := if b ≤ a then 1 else 0
end Go.Proofs.YtnnlgafmpobdhaaGreatDoor

/-
  The reference's operators (escapementref12.Op), of any two numbers; its comparison of rows, of a live one.
-/


namespace Go.Proofs.YtnnlgafmpobdhaaGreatDoor
open Go Go.Abs Go.Lex
set_option linter.unusedSimpArgs false
set_option linter.unusedVariables false
variable {G : Nat → Option AV}

def opsC : List AV := [.str [43], .str [45], .str [42], .str [47], .str [109, 111, 100], .str [61], .str [60, 62], .str [60], .str [60, 61], .str [62], .str [62, 61]]
theorem ops_low {H : AHeap} (hw : H.Wf) {j : Nat} {x : AObj} (hj : (H.push (.cells opsC)).get j = some x) : j < (H.push (.cells opsC)).next := by
  show j < H.next + 1
  have hj : (if j = H.next then some (.cells opsC) else H.get j) = some x := hj
  split at hj
  · omega
  · have := (hw _ _ hj).1; omega

theorem rf_truth (b : Bool) (H : AHeap) : Does Tryz.prog G 17 [.bool b] H fun r h => r = .int .i64 (if b then 1 else 0) ∧ h = H := by
  refine does_f Tryz.call17 Tryz.func17 rfl (by simp [Tryz.f17]) ?_
  cases b <;> simp

theorem same_live (a b : Int) (k : Nat) (H : AHeap) (hk : H.get k = some (.cells [.int .i64 a, .int .i64 b])) : Does Tryz.prog G 12 [.vsl [.int .i64 a, .int .i64 b] 2, .sl k 0 1 2 2 false] H fun r h => r = .bool true ∧ h = H.kill k := by
  refine Does.asFrozen (H2 := H.kill k) (n := 3) (fun i x hi => ?_) rfl ?_ (same_true [a, b] (by simp) (H.kill k))
  · have hi : (if i = k then none else H.get i) = some x := hi
    split at hi
    · simp at hi
    · exact hi
  · have e : offGet H.get (H.kill k).get k = some (.cells [.int .i64 a, .int .i64 b]) := by
      have e1 : (H.kill k).get k = none := if_pos rfl
      unfold offGet
      rw [e1]
      exact hk
    have e2 : AV.res (offGet H.get (H.kill k).get) 3 (.sl k 0 1 2 2 false) = some (.vsl [.int .i64 a, .int .i64 b] 2) := by
      rw [AV.res]
      simp only [e]
      rfl
    have e3 : AV.res (offGet H.get (H.kill k).get) 3 (.vsl [.int .i64 a, .int .i64 b] 2) = some (.vsl [.int .i64 a, .int .i64 b] 2) := rfl
    simp only [List.map_cons, List.map_nil, e2, e3]
    rfl

set_option maxHeartbeats 4000000 in
set_option maxRecDepth 100000 in
theorem rf_op0 (a b : Int) (k : Nat) (H : AHeap) (hk : H.get k = some (.cells [.int .i64 a, .int .i64 b])) : Does Tryz.prog G 13 [.str [43], .sl k 0 1 2 2 false] H fun r h => r = .int .i64 (opF0 a b) ∧ h = H := by
  refine does_f Tryz.call13 Tryz.func13 rfl (by simp [Tryz.f13]) ?_
  simp [hk]
  refine aw_still mixedOrders (by kernel_rfl) ?_
  intro es hes
  simp [hk]
  subst hes
  exact ⟨by kernel_rfl, by simp [opF0]⟩
set_option maxHeartbeats 4000000 in
set_option maxRecDepth 100000 in
theorem rf_op1 (a b : Int) (k : Nat) (H : AHeap) (hk : H.get k = some (.cells [.int .i64 a, .int .i64 b])) : Does Tryz.prog G 13 [.str [45], .sl k 0 1 2 2 false] H fun r h => r = .int .i64 (opF1 a b) ∧ h = H := by
  refine does_f Tryz.call13 Tryz.func13 rfl (by simp [Tryz.f13]) ?_
  simp [hk]
  refine aw_still mixedOrders (by kernel_rfl) ?_
  intro es hes
  simp [hk]
  subst hes
  exact ⟨by kernel_rfl, by simp [opF1]⟩
set_option maxHeartbeats 4000000 in
set_option maxRecDepth 100000 in
theorem rf_op2 (a b : Int) (k : Nat) (H : AHeap) (hk : H.get k = some (.cells [.int .i64 a, .int .i64 b])) : Does Tryz.prog G 13 [.str [42], .sl k 0 1 2 2 false] H fun r h => r = .int .i64 (opF2 a b) ∧ h = H := by
  refine does_f Tryz.call13 Tryz.func13 rfl (by simp [Tryz.f13]) ?_
  simp [hk]
  refine aw_still mixedOrders (by kernel_rfl) ?_
  intro es hes
  simp [hk]
  subst hes
  exact ⟨by kernel_rfl, by simp [opF2]⟩
set_option maxHeartbeats 4000000 in
set_option maxRecDepth 100000 in
theorem rf_op3 (a b : Int) (k : Nat) (H : AHeap) (hk : H.get k = some (.cells [.int .i64 a, .int .i64 b])) : Does Tryz.prog G 13 [.str [47], .sl k 0 1 2 2 false] H fun r h => r = .int .i64 (opF3 a b) ∧ h = H := by
  refine does_f Tryz.call13 Tryz.func13 rfl (by simp [Tryz.f13]) ?_
  simp [hk]
  refine aw_still mixedOrders (by kernel_rfl) ?_
  intro es hes
  by_cases hb : b = 0
  · subst hb
    simp [hk]
    subst hes
    exact ⟨by kernel_rfl, by simp [opF3]⟩
  · have hb' : (b == 0) = false := by simp [hb]
    by_cases hc : b = -1
    · subst hc
      simp [hk]
      subst hes
      exact ⟨by kernel_rfl, by simp [opF3]⟩
    · have hc' : (b == -1) = false := by simp [hc]
      simp [hk, hb, hb', hc, hc']
      subst hes
      exact ⟨by kernel_rfl, by simp [opF3, hb]⟩
set_option maxHeartbeats 4000000 in
set_option maxRecDepth 100000 in
theorem rf_op4 (a b : Int) (k : Nat) (H : AHeap) (hk : H.get k = some (.cells [.int .i64 a, .int .i64 b])) : Does Tryz.prog G 13 [.str [109, 111, 100], .sl k 0 1 2 2 false] H fun r h => r = .int .i64 (opF4 a b) ∧ h = H := by
  refine does_f Tryz.call13 Tryz.func13 rfl (by simp [Tryz.f13]) ?_
  simp [hk]
  refine aw_still mixedOrders (by kernel_rfl) ?_
  intro es hes
  by_cases hb : b = 0
  · subst hb
    simp [hk]
    subst hes
    exact ⟨by kernel_rfl, by simp [opF4]⟩
  · have hb' : (b == 0) = false := by simp [hb]
    by_cases hc : b = -1
    · subst hc
      simp [hk]
      subst hes
      exact ⟨by kernel_rfl, by simp [opF4, Int.tmod_neg]⟩
    · have hc' : (b == -1) = false := by simp [hc]
      simp [hk, hb, hb', hc, hc']
      subst hes
      exact ⟨by kernel_rfl, by simp [opF4, hb]⟩
set_option maxHeartbeats 4000000 in
set_option maxRecDepth 100000 in
theorem rf_op5 (a b : Int) (k : Nat) (H : AHeap) (hk : H.get k = some (.cells [.int .i64 a, .int .i64 b])) : Does Tryz.prog G 13 [.str [61], .sl k 0 1 2 2 false] H fun r h => r = .int .i64 (opF5 a b) ∧ h = H := by
  refine does_f Tryz.call13 Tryz.func13 rfl (by simp [Tryz.f13]) ?_
  simp [hk]
  refine aw_still mixedOrders (by kernel_rfl) ?_
  intro es hes
  simp [hk]
  subst hes
  refine ⟨by kernel_rfl, ?_⟩
  refine does_use (rf_truth _ _) ?_
  rintro _ HX ⟨rfl, hHX⟩
  rw [hHX]
  clear hHX HX
  simp [opF5]
set_option maxHeartbeats 4000000 in
set_option maxRecDepth 100000 in
theorem rf_op6 (a b : Int) (k : Nat) (H : AHeap) (hk : H.get k = some (.cells [.int .i64 a, .int .i64 b])) : Does Tryz.prog G 13 [.str [60, 62], .sl k 0 1 2 2 false] H fun r h => r = .int .i64 (opF6 a b) ∧ h = H := by
  refine does_f Tryz.call13 Tryz.func13 rfl (by simp [Tryz.f13]) ?_
  simp [hk]
  refine aw_still mixedOrders (by kernel_rfl) ?_
  intro es hes
  simp [hk]
  subst hes
  refine ⟨by kernel_rfl, ?_⟩
  refine does_use (rf_truth _ _) ?_
  rintro _ HX ⟨rfl, hHX⟩
  rw [hHX]
  clear hHX HX
  simp [opF6]
set_option maxHeartbeats 4000000 in
set_option maxRecDepth 100000 in
theorem rf_op7 (a b : Int) (k : Nat) (H : AHeap) (hk : H.get k = some (.cells [.int .i64 a, .int .i64 b])) : Does Tryz.prog G 13 [.str [60], .sl k 0 1 2 2 false] H fun r h => r = .int .i64 (opF7 a b) ∧ h = H := by
  refine does_f Tryz.call13 Tryz.func13 rfl (by simp [Tryz.f13]) ?_
  simp [hk]
  refine aw_still mixedOrders (by kernel_rfl) ?_
  intro es hes
  simp [hk]
  subst hes
  refine ⟨by kernel_rfl, ?_⟩
  refine does_use (rf_truth _ _) ?_
  rintro _ HX ⟨rfl, hHX⟩
  rw [hHX]
  clear hHX HX
  simp [opF7]
set_option maxHeartbeats 4000000 in
set_option maxRecDepth 100000 in
theorem rf_op8 (a b : Int) (k : Nat) (H : AHeap) (hk : H.get k = some (.cells [.int .i64 a, .int .i64 b])) : Does Tryz.prog G 13 [.str [60, 61], .sl k 0 1 2 2 false] H fun r h => r = .int .i64 (opF8 a b) ∧ h = H := by
  refine does_f Tryz.call13 Tryz.func13 rfl (by simp [Tryz.f13]) ?_
  simp [hk]
  refine aw_still mixedOrders (by kernel_rfl) ?_
  intro es hes
  simp [hk]
  subst hes
  refine ⟨by kernel_rfl, ?_⟩
  refine does_use (rf_truth _ _) ?_
  rintro _ HX ⟨rfl, hHX⟩
  rw [hHX]
  clear hHX HX
  simp [opF8]
set_option maxHeartbeats 4000000 in
set_option maxRecDepth 100000 in
theorem rf_op9 (a b : Int) (k : Nat) (H : AHeap) (hk : H.get k = some (.cells [.int .i64 a, .int .i64 b])) : Does Tryz.prog G 13 [.str [62], .sl k 0 1 2 2 false] H fun r h => r = .int .i64 (opF9 a b) ∧ h = H := by
  refine does_f Tryz.call13 Tryz.func13 rfl (by simp [Tryz.f13]) ?_
  simp [hk]
  refine aw_still mixedOrders (by kernel_rfl) ?_
  intro es hes
  simp [hk]
  subst hes
  refine ⟨by kernel_rfl, ?_⟩
  refine does_use (rf_truth _ _) ?_
  rintro _ HX ⟨rfl, hHX⟩
  rw [hHX]
  clear hHX HX
  simp [opF9]
set_option maxHeartbeats 4000000 in
set_option maxRecDepth 100000 in
theorem rf_op10 (a b : Int) (k : Nat) (H : AHeap) (hk : H.get k = some (.cells [.int .i64 a, .int .i64 b])) : Does Tryz.prog G 13 [.str [62, 61], .sl k 0 1 2 2 false] H fun r h => r = .int .i64 (opF10 a b) ∧ h = H := by
  refine does_f Tryz.call13 Tryz.func13 rfl (by simp [Tryz.f13]) ?_
  simp [hk]
  refine aw_still mixedOrders (by kernel_rfl) ?_
  intro es hes
  simp [hk]
  subst hes
  refine ⟨by kernel_rfl, ?_⟩
  refine does_use (rf_truth _ _) ?_
  rintro _ HX ⟨rfl, hHX⟩
  rw [hHX]
  clear hHX HX
  simp [opF10]
theorem text_live {t : List UInt8} {R : AV} {a b : Int} (h : ∀ H, Does Tryz.prog G 11 [.str t, .vsl [.vsl [.int .i64 a, .int .i64 b] 2] 1] H fun r h => r = R ∧ h = H) (H : AHeap) (hw : ∀ j x, H.get j = some x → j < H.next) :
    Does Tryz.prog G 11 [.str t, .sl (H.next + 1) 0 1 1 1 false] ((H.push (.cells [.int .i64 a, .int .i64 b])).push (.cells [.sl H.next 0 1 2 2 false])) fun r h => r = R ∧ h = { next := H.next + 1 + 1, get := H.get } := by
  have n1 : H.get H.next = none := by
    cases e : H.get H.next with
    | none => rfl
    | some x => exact absurd (hw _ _ e) (Nat.lt_irrefl _)
  have n2 : H.get (H.next + 1) = none := by
    cases e : H.get (H.next + 1) with
    | none => rfl
    | some x => have := hw _ _ e; omega
  refine Does.asFrozen (H2 := { next := H.next + 1 + 1, get := H.get }) (n := 4) (fun i x hi => ?_) rfl ?_ (h _)
  · have := hw i x hi
    have e1 : i ≠ H.next := by omega
    have e2 : i ≠ H.next + 1 := by omega
    simp [AHeap.push, e1, e2]
    exact hi
  · have e1 : offGet ((H.push (.cells [.int .i64 a, .int .i64 b])).push (.cells [.sl H.next 0 1 2 2 false])).get H.get (H.next + 1) = some (.cells [.sl H.next 0 1 2 2 false]) := by
      unfold offGet
      rw [n2]
      simp [AHeap.push]
    have e2 : offGet ((H.push (.cells [.int .i64 a, .int .i64 b])).push (.cells [.sl H.next 0 1 2 2 false])).get H.get H.next = some (.cells [.int .i64 a, .int .i64 b]) := by
      unfold offGet
      rw [n1]
      simp [AHeap.push]
    have e3 : AV.res (offGet ((H.push (.cells [.int .i64 a, .int .i64 b])).push (.cells [.sl H.next 0 1 2 2 false])).get H.get) 3 (.sl H.next 0 1 2 2 false) = some (.vsl [.int .i64 a, .int .i64 b] 2) := by
      rw [AV.res]
      simp only [e2]
      rfl
    have e4 : AV.res (offGet ((H.push (.cells [.int .i64 a, .int .i64 b])).push (.cells [.sl H.next 0 1 2 2 false])).get H.get) 4 (.sl (H.next + 1) 0 1 1 1 false) = some (.vsl [.vsl [.int .i64 a, .int .i64 b] 2] 1) := by
      rw [AV.res]
      simp only [e1, List.drop_zero, Nat.mul_one, List.take_succ_cons, List.take_zero, List.map_cons, List.map_nil, e3]
      rfl
    simp only [List.map_cons, List.map_nil, e4]
    rfl

end Go.Proofs.YtnnlgafmpobdhaaGreatDoor
