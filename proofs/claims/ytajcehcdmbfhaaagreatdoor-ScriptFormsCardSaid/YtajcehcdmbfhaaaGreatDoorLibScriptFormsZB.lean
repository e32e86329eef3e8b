/-
  Own library of this claim, part 42: texts one behind the other (SfE, SfW, SfX).
-/
import Derived.Test.YtajcehcdmbfhaaaGreatDoorLibN
import Derived.Test.YtajcehcdmbfhaaaGreatDoorLibScriptFormsR
import Derived.Test.YtajcehcdmbfhaaaGreatDoorLibScriptFormsS
import Derived.Test.YtajcehcdmbfhaaaGreatDoorLibScriptFormsT
import Derived.Test.YtajcehcdmbfhaaaGreatDoorLibScriptFormsU
import Derived.Test.YtajcehcdmbfhaaaGreatDoorLibScriptFormsX
import Derived.Test.YtajcehcdmbfhaaaGreatDoorLibScriptFormsY
import Derived.Test.YtajcehcdmbfhaaaGreatDoorLibScriptFormsZ
import Derived.Test.YtajcehcdmbfhaaaGreatDoorLibScriptFormsZA
set_option linter.unusedVariables false
set_option linter.unusedSimpArgs false

/-
  ScriptForms: what script.Run tells of each line.
-/









namespace Go.Proofs.YtajcehcdmbfhaaaGreatDoor
open Go Go.Abs Go.RowKit
set_option maxRecDepth 100000

theorem oneF_no : (10 : UInt8) ∉ oneP := by decide
theorem oneF_ne : oneP ≠ bord := by decide
theorem oneF_len : oneP.length = 59 := by decide
/-- A line that has its form: no fault. -/
theorem sf_good : ∀ k : Nat, k < 11 → ∀ H : AHeap, Does Tryz.prog (Gof tab) 6 [.str (withL oneP (textF (lineF k)))] H fun r h => ∃ a, r = .tuple [.str a, .int .i64 0] ∧ h = H
  | 0, _, H => by
    rw [show withL oneP (textF (lineF 0)) = sfT0 from by kernel_rfl]
    exact (sfG0 H).mono fun r h hr => ⟨_, hr⟩
  | 1, _, H => by
    rw [show withL oneP (textF (lineF 1)) = sfT1 from by kernel_rfl]
    exact (sfG1 H).mono fun r h hr => ⟨_, hr⟩
  | 2, _, H => by
    rw [show withL oneP (textF (lineF 2)) = sfT2 from by kernel_rfl]
    exact (sfG2 H).mono fun r h hr => ⟨_, hr⟩
  | 3, _, H => by
    rw [show withL oneP (textF (lineF 3)) = sfT3 from by kernel_rfl]
    exact (sfG3 H).mono fun r h hr => ⟨_, hr⟩
  | 4, _, H => by
    rw [show withL oneP (textF (lineF 4)) = sfT4 from by kernel_rfl]
    exact (sfG4 H).mono fun r h hr => ⟨_, hr⟩
  | 5, _, H => by
    rw [show withL oneP (textF (lineF 5)) = sfT5 from by kernel_rfl]
    exact (sfG5 H).mono fun r h hr => ⟨_, hr⟩
  | 6, _, H => by
    rw [show withL oneP (textF (lineF 6)) = sfT6 from by kernel_rfl]
    exact (sfG6 H).mono fun r h hr => ⟨_, hr⟩
  | 7, _, H => by
    rw [show withL oneP (textF (lineF 7)) = sfT7 from by kernel_rfl]
    exact (sfG7 H).mono fun r h hr => ⟨_, hr⟩
  | 8, _, H => by
    rw [show withL oneP (textF (lineF 8)) = sfT8 from by kernel_rfl]
    exact (sfG8 H).mono fun r h hr => ⟨_, hr⟩
  | 9, _, H => by
    rw [show withL oneP (textF (lineF 9)) = sfT9 from by kernel_rfl]
    exact (sfG9 H).mono fun r h hr => ⟨_, hr⟩
  | 10, _, H => by
    rw [show withL oneP (textF (lineF 10)) = sfT10 from by kernel_rfl]
    exact (sfG10 H).mono fun r h hr => ⟨_, hr⟩
  | n + 11, hn, _ => absurd hn (by omega)
theorem mutF_len (s : List UInt8) : ∀ h, (mutF s h).length ≤ s.length + 8
  | 0 => by simp [mutF]
  | 1 => by simp [mutF]
  | 2 => by simp [mutF]; omega
  | _ + 3 => by simp [mutF]
theorem lineF_len : ∀ k, (lineF k).length ≤ 9
  | 0 | 1 | 2 | 3 | 4 | 5 | 6 | 7 | 8 | 9 | 10 => by simp [lineF]
  | _ + 11 => by simp [lineF]
theorem badF_len (k h : Nat) : (badF k h).length ≤ 26 := by
  have h1 := mutF_len (lineF k) h
  have h2 := lineF_len k
  simp [badF, textF, firstF]
  omega
/-- One that has not: refused, and nothing is said. -/
theorem sf_bad {k h : Nat} (hk : k < 11) (hh : h < 4) (H : AHeap) : Does Tryz.prog (Gof tab) 6 [.str (withL oneP (badF k h))] H fun r h => r = .tuple [.str [], .int .i64 7] ∧ h = H := by
  have hl := badF_len k h
  refine run_refused (rv := rowsL (badF k h)) (n := (rowsB 10 (trimL (badF k h))).length) (fun H => split_with oneF_no oneF_ne (show badF k h ≠ [] from textF_ne _) (by rw [oneF_len]; omega) H) (.some _ _) (by rw [withL_len, oneF_len]; omega) ?_ ?_ H
  · rw [rowsB_len]
    have h1 := cnt_le 10 (trimL (badF k h))
    have h2 : (trimL (badF k h)).length ≤ (badF k h).length := by unfold trimL; split <;> (try rw [List.length_dropLast]) <;> omega
    omega
  · intro H
    obtain rfl | rfl | rfl | rfl : h = 0 ∨ h = 1 ∨ h = 2 ∨ h = 3 := by omega
    · exact sfP0 k hk H
    · exact sfP1 k hk H
    · exact sfP2 k hk H
    · exact sfP3 k hk H
end Go.Proofs.YtajcehcdmbfhaaaGreatDoor

/-
  ScriptForms' own function, walked, over what its calls do.
-/


namespace Go.Proofs.YtajcehcdmbfhaaaGreatDoor
open Go Go.Abs
variable {G : Nat → Option AV}

theorem lineF_some : ∀ k, k < 11 → 1 ≤ (lineF k).length ∧ (lineF k).length ≤ 9
  | 0, _ | 1, _ | 2, _ | 3, _ | 4, _ | 5, _ | 6, _ | 7, _ | 8, _ | 9, _ | 10, _ => by simp [lineF]
  | n + 11, h => absurd h (by omega)
theorem and3 (how : Int) : ∃ h : Nat, h < 4 ∧ IntKind.i64.wrap (((how % 2 ^ IntKind.i64.bits).toNat &&& 3 % 2 ^ IntKind.i64.bits : Nat) : Int) = h := by
  have e3 : 3 % 2 ^ IntKind.i64.bits = 3 := rfl
  rw [e3]
  have h3 : (how % 2 ^ IntKind.i64.bits).toNat &&& 3 ≤ 3 := Nat.and_le_right
  generalize (how % 2 ^ IntKind.i64.bits).toNat &&& 3 = x at *
  exact ⟨x, by omega, IntWalk.i64_in _ (by omega)⟩
set_option maxHeartbeats 8000000 in
set_option maxRecDepth 100000 in
theorem forms_in {one : List UInt8 → List UInt8} (hA : ∀ H, Does Tryz.prog G 5 [] H fun r h => r = .bool true ∧ h = H)
    (h1 : ∀ x : List UInt8, x.length ≤ 1000000 → ∀ H, Does Tryz.prog G 7 [.str x] H fun r h => r = .str (one x) ∧ h = H)
    (hg : ∀ k : Nat, k < 11 → ∀ H, Does Tryz.prog G 6 [.str (one (textF (lineF k)))] H fun r h => ∃ a, r = .tuple [.str a, .int .i64 0] ∧ h = H)
    (hb : ∀ k : Nat, k < 11 → ∀ m : Nat, m < 4 → ∀ H, Does Tryz.prog G 6 [.str (one (badF k m))] H fun r h => r = .tuple [.str [], .int .i64 7] ∧ h = H)
    {k : Nat} (hk : k < 11) (how : Int) (H : AHeap) : Does Tryz.prog G 4 [.int .i64 k, .int .i64 how] H fun r _ => r = .bool true := by
  refine Does.wf Tryz.call4 fun hw _ => ?_
  refine does_f Tryz.call4 Tryz.func4 rfl (by simp [Tryz.f4]) ?_
  have g1 : ¬ (k : Int) < 0 := by omega
  have g2 : ¬ (11 : Int) ≤ k := by omega
  have g3 : (k : Int) < 11 := by omega
  obtain ⟨m, hm, hand⟩ := and3 how
  simp
  refine does_use (hA _) ?_
  rintro _ H ⟨rfl, rfl⟩
  have hk2 : k ≤ 11 := by omega
  simp [g1, g2, g3, hk, hk2, lines_drop k hk]
  obtain ⟨l1, l2⟩ := lineF_some k hk
  have e1 : firstF ++ (lineF k ++ [10]) = textF (lineF k) := rfl
  have hgk := hg k hk
  have hbk := hb k hk m hm
  have hbd : badF k m = textF (mutF (lineF k) m) := rfl
  rw [hbd] at hbk
  generalize lineF k = s at *
  rw [if_pos (by omega)]
  simp
  rw [if_pos (by omega)]
  simp
  refine does_use (h1 _ (by simp; omega) _) ?_
  rintro _ _ ⟨rfl, rfl⟩
  simp
  refine does_use (hgk _) ?_
  rintro _ _ ⟨a, rfl, rfl⟩
  obtain rfl | rfl | rfl | rfl : m = 0 ∨ m = 1 ∨ m = 2 ∨ m = 3 := by omega
  · simp [hand]
    rw [if_pos (by omega)]
    simp
    rw [if_pos (by omega)]
    simp
    rw [if_pos (by omega)]
    simp
    refine does_use (h1 _ (by simp; omega) _) ?_
    rintro _ _ ⟨rfl, rfl⟩
    simp
    have e : 102 :: 108 :: 101 :: 101 :: 116 :: 32 :: 49 :: 10 :: (s ++ [32, 49, 10]) = textF (mutF s 0) := by simp [textF, firstF, mutF]
    rw [e]
    refine does_use (hbk _) ?_
    rintro _ _ ⟨rfl, rfl⟩
    simp
  · simp [hand]
    rw [if_pos (by omega)]
    simp
    rw [if_pos (by omega)]
    simp
    rw [if_pos (by omega)]
    simp
    refine does_use (h1 _ (by simp; omega) _) ?_
    rintro _ _ ⟨rfl, rfl⟩
    simp
    have e : 102 :: 108 :: 101 :: 101 :: 116 :: 32 :: 49 :: 10 :: 120 :: (s ++ [10]) = textF (mutF s 1) := by simp [textF, firstF, mutF]
    rw [e]
    refine does_use (hbk _) ?_
    rintro _ _ ⟨rfl, rfl⟩
    simp
  · have w1 : IntKind.i64.wrap ((s.length : Int) - 1) = ((s.length - 1 : Nat) : Int) := by rw [IntWalk.i64_in _ (by omega)]; omega
    have q1 : ((s.length - 1 : Nat) : Int) ≤ s.length := by omega
    have q2 : s.length - 1 ≤ s.length := by omega
    simp [hand, w1, q1, q2]
    rw [if_pos (by omega)]
    simp
    rw [if_pos (by omega)]
    simp
    rw [if_pos (by omega)]
    simp
    refine does_use (h1 _ (by simp; omega) _) ?_
    rintro _ _ ⟨rfl, rfl⟩
    simp
    have e : 102 :: 108 :: 101 :: 101 :: 116 :: 32 :: 49 :: 10 :: (List.take (s.length - 1) s ++ [122, 10]) = textF (mutF s 2) := by simp [textF, firstF, mutF]
    rw [e]
    refine does_use (hbk _) ?_
    rintro _ _ ⟨rfl, rfl⟩
    simp
  · simp [hand]
    rw [if_pos (by omega)]
    simp
    rw [if_pos (by omega)]
    simp
    rw [if_pos (by omega)]
    simp
    refine does_use (h1 _ (by simp; omega) _) ?_
    rintro _ _ ⟨rfl, rfl⟩
    simp
    have e : 102 :: 108 :: 101 :: 101 :: 116 :: 32 :: 49 :: 10 :: (s ++ [10, 110, 101, 116, 32, 110, 101, 116, 10]) = textF (mutF s 3) := by simp [textF, firstF, mutF]
    rw [e]
    refine does_use (hbk _) ?_
    rintro _ _ ⟨rfl, rfl⟩
    simp
set_option maxRecDepth 100000 in
theorem forms_out (hA : ∀ H, Does Tryz.prog G 5 [] H fun r h => r = .bool true ∧ h = H) {k : Int} (h : k < 0 ∨ 11 ≤ k) (how : Int) (H : AHeap) :
    Does Tryz.prog G 4 [.int .i64 k, .int .i64 how] H fun r _ => r = .bool true := by
  refine does_f Tryz.call4 Tryz.func4 rfl (by simp [Tryz.f4]) ?_
  simp
  refine does_use (hA _) ?_
  rintro _ H ⟨rfl, rfl⟩
  rcases h with h | h
  · simp [h]
  · have h1 : ¬ k < 0 := by omega
    simp [h, h1]
end Go.Proofs.YtajcehcdmbfhaaaGreatDoor

/-
  ScriptForms, for whatever arguments.
-/



namespace Go.Proofs.YtajcehcdmbfhaaaGreatDoor
open Go Go.Abs
set_option maxRecDepth 100000

theorem forms_any (H : AHeap) (a0 a1 : AV) (s0 : Shp Tryz.prog 8 3 [a0]) (s1 : Shp Tryz.prog 8 3 [a1]) : Does Tryz.prog (Gof tab) 4 [a0, a1] H fun r _ => r = .bool true := by
  unfold Shp at s0 s1
  rw [Tryz.underlying3] at s0 s1
  obtain ⟨k, hk, _⟩ := s0
  obtain ⟨how, hh, _⟩ := s1
  cases hk
  cases hh
  by_cases h : k < 0 ∨ 11 ≤ k
  · exact forms_out (fun H => awake28 H) h how H
  · obtain ⟨m, rfl⟩ : ∃ m : Nat, k = m := ⟨k.toNat, by omega⟩
    exact forms_in (one := withL oneP) (fun H => awake28 H) (fun x hx H => one_text x hx H) (fun k hk H => sf_good k hk H) (fun k hk m hm H => sf_bad hk hm H) (by omega) how H
end Go.Proofs.YtajcehcdmbfhaaaGreatDoor
