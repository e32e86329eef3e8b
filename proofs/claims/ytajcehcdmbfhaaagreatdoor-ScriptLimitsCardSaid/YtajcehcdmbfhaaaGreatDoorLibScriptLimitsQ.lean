/-
  Own library of this claim, part 31: texts one behind the other (SlA, SlW, SlX).
-/
import Derived.Test.YtajcehcdmbfhaaaGreatDoorLibN
set_option linter.unusedVariables false
set_option linter.unusedSimpArgs false

/-
  script.Run of a program and blank lines, of too many of them, of too long a text.
-/


namespace Go.Proofs.YtajcehcdmbfhaaaGreatDoor
open Go Go.Abs Go.Lex Go.RowKit

theorem oneP_no : (10 : UInt8) ∉ oneP := by decide
theorem oneP_ne : oneP ≠ bord := by decide
theorem oneP_len : oneP.length = 59 := by decide
theorem sk_one : skP skR1 = .str (oneP ++ [10]) := by kernel_rfl
theorem trim_same (n : Nat) : trimL (List.replicate (n + 1) 10) = List.replicate n 10 := by
  have e : List.replicate (n + 1) (10 : UInt8) = List.replicate n 10 ++ [10] := by rw [List.replicate_succ']
  rw [trimL, e]
  simp
theorem rowsL_same (n : Nat) : rowsL (List.replicate (n + 1) 10) = .vsl (strsV (List.replicate (n + 1) [])) (n + 1) := by
  rw [rowsL, trim_same, rowsB_same, List.length_replicate]
theorem comp_one (H : AHeap) : Does Tryz.prog (Gof tab) 10 [.str (oneP ++ [10])] H fun r h => r = .tuple [skC1, .agg [.int .i64 0, .int .i64 0]] ∧ h = H := by
  rw [← sk_one]
  exact skComp1 H
theorem run_blank : ∀ {n : Nat}, n ≤ 400 → ∀ H : AHeap, Does Tryz.prog (Gof tab) 6 [.str (withL oneP (List.replicate n 10))] H fun r h => r = .tuple [.str [], .int .i64 0] ∧ h = H
  | 0, _, H => by
    refine run_none (hsc := ⟨⟨rfl, rfl⟩, ⟨rfl, rfl⟩, ⟨rfl, rfl⟩, ⟨rfl, rfl⟩, ⟨rfl, rfl⟩, rfl, rfl⟩) (rv := .nilsl) (at_ := 0) (fun H => split_end oneP_no oneP_ne (by rw [oneP_len]; omega) H) .no (by rw [withL_len, oneP_len]; simp) (by omega) (fun H => parse_nil H) (hc := fun H => comp_one H) (hf := fun H => skNew1 H) H
  | n + 1, hn, H => by
    refine run_none (hsc := ⟨⟨rfl, rfl⟩, ⟨rfl, rfl⟩, ⟨rfl, rfl⟩, ⟨rfl, rfl⟩, ⟨rfl, rfl⟩, rfl, rfl⟩) (n := n + 1) (rv := rowsL (List.replicate (n + 1) 10)) (at_ := 0) (fun H => split_with oneP_no oneP_ne (by simp) (by rw [oneP_len]; simp; omega) H) ?_ (by rw [withL_len, oneP_len]; simp; omega) hn ?_ (hc := fun H => comp_one H) (hf := fun H => skNew1 H) H
    · rw [rowsL_same]; exact .some _ _
    · intro H; rw [rowsL_same]; exact parse_blank (by omega) H
theorem run_many {n : Nat} (h1 : 400 < n) (h2 : n ≤ 30000) (H : AHeap) : Does Tryz.prog (Gof tab) 6 [.str (withL oneP (List.replicate n 10))] H fun r h => r = .tuple [.str [], .int .i64 2] ∧ h = H := by
  obtain ⟨k, rfl⟩ : ∃ k, n = k + 1 := ⟨n - 1, by omega⟩
  refine run_limit (n := k + 1) (rv := rowsL (List.replicate (k + 1) 10)) (fun H => split_with oneP_no oneP_ne (by simp) (by rw [oneP_len]; simp; omega) H) ?_ (.inr h1) H
  rw [rowsL_same]; exact .some _ _
theorem run_long {n : Nat} (h1 : 32768 < n) (h2 : n ≤ 900000) (H : AHeap) : Does Tryz.prog (Gof tab) 6 [.str (List.replicate n 32)] H fun r h => r = .tuple [.str [], .int .i64 2] ∧ h = H := by
  have e : (10 : UInt8) ∉ List.replicate n 32 := by simp
  have e2 : List.replicate n (32 : UInt8) ≠ bord := fun h => by
    have := congrArg List.length h
    simp [bord] at this
    omega
  exact run_limit (n := 0) (rv := .nilsl) (fun H => split_none e e2 (by simp; omega) H) .no (.inl (by simp; omega)) H
end Go.Proofs.YtajcehcdmbfhaaaGreatDoor

/-
  ScriptLimits' own function, walked, over what its calls do.
-/


namespace Go.Proofs.YtajcehcdmbfhaaaGreatDoor
open Go Go.Abs
variable {G : Nat → Option AV}

def fillB (c : UInt8) (i n : Nat) : List UInt8 := List.replicate i c ++ List.replicate (n - i) 0
def fillV (c : UInt8) (i n : Nat) : List AV := (fillB c i n).map fun b => AV.int .u8 b.toNat
theorem fillB_len {c : UInt8} {i n : Nat} (h : i ≤ n) : (fillB c i n).length = n := by simp [fillB]; omega
theorem fillV_len {c : UInt8} {i n : Nat} (h : i ≤ n) : (fillV c i n).length = n := by rw [fillV, List.length_map, fillB_len h]
theorem fillB_full {c : UInt8} {n : Nat} : fillB c n n = List.replicate n c := by simp [fillB]
theorem fillB_set {c : UInt8} {i n : Nat} (h : i < n) : (fillB c i n).set i c = fillB c (i + 1) n := by
  obtain ⟨k, hk⟩ : ∃ k, n - i = k + 1 := ⟨n - i - 1, by omega⟩
  have hk2 : n - (i + 1) = k := by omega
  have e := List.set_append_right (s := List.replicate i c) (t := List.replicate (k + 1) (0 : UInt8)) i c (by simp)
  have e2 : List.replicate (i + 1) c = List.replicate i c ++ [c] := List.replicate_succ'
  rw [fillB, fillB, hk, hk2, e, e2, List.length_replicate, Nat.sub_self, List.replicate_succ, List.set_cons_zero, List.append_assoc]
  rfl
theorem fillV_put {c : UInt8} {i n : Nat} (h : i < n) : List.take i (fillV c i n) ++ AV.int .u8 (c.toNat : Int) :: List.drop (i + 1) (fillV c i n) = fillV c (i + 1) n := by
  have e : (fillV c i n).set i (.int .u8 (c.toNat : Int)) = fillV c (i + 1) n := by rw [fillV, fillV, ← fillB_set h, List.map_set]
  rw [← e, List.set_eq_take_append_cons_drop, if_pos (by rw [fillV_len (by omega)]; exact h)]
theorem arep_u8 (c : UInt8) : ∀ n, arep [AV.int .u8 0] n = fillV c 0 n
  | 0 => rfl
  | n + 1 => by
    rw [arep, arep_u8 c n]
    simp [fillV, fillB, List.replicate_succ]
theorem abytes_b : ∀ bs : List UInt8, abytes (bs.map fun b => AV.int .u8 b.toNat) = some bs
  | [] => rfl
  | b :: bs => by
    have := abytes_b bs
    simp only [List.map_cons, abytes] at this ⊢
    rw [this]
    simp
set_option maxHeartbeats 8000000 in
set_option maxRecDepth 100000 in
theorem limits_in {one : List UInt8 → List UInt8} (hA : ∀ H, Does Tryz.prog G 5 [] H fun r h => r = .bool true ∧ h = H)
    (h1 : ∀ x : List UInt8, x.length ≤ 1000000 → ∀ H, Does Tryz.prog G 7 [.str x] H fun r h => r = .str (one x) ∧ h = H)
    (hb : ∀ n : Nat, n ≤ 400 → ∀ H, Does Tryz.prog G 6 [.str (one (List.replicate n 10))] H fun r h => r = .tuple [.str [], .int .i64 0] ∧ h = H)
    (hm : ∀ n : Nat, 400 < n → n ≤ 30000 → ∀ H, Does Tryz.prog G 6 [.str (one (List.replicate n 10))] H fun r h => r = .tuple [.str [], .int .i64 2] ∧ h = H)
    (hl : ∀ H, Does Tryz.prog G 6 [.str (List.replicate 32769 32)] H fun r h => r = .tuple [.str [], .int .i64 2] ∧ h = H)
    {n : Nat} (hn : n ≤ 500) (H : AHeap) : Does Tryz.prog G 3 [.int .i64 n] H fun r _ => r = .bool true := by
  refine Does.wf Tryz.call3 fun hw _ => ?_
  refine does_f Tryz.call3 Tryz.func3 rfl (by simp [Tryz.f3]) ?_
  have g2 : ¬ (500 : Int) < n := by omega
  have g3 : ¬ 500 < n := by omega
  have g4 : (n : Int) ≤ 4611686018427387904 := by omega
  have g5 : (n : Int) ≤ 281474976710656 := by omega
  simp
  refine does_use (hA _) ?_
  rintro _ H ⟨rfl, rfl⟩
  have g1 : ¬ (n : Int) < 0 := by omega
  simp [g1, g2, g3, g4, g5, arep_u8 10]
  refine aws_loopw (fun m T' H' => ∃ i : Nat, i + m = n ∧ T' 0 = .int .i64 n ∧ T' 3 = .sl H.next 0 1 n n false ∧ T' 4 = .int .i64 i ∧ H' = H.push (.cells (fillV 10 i n))) n ?_ ?_
  · refine ⟨0, by simp, ?_, ?_, ?_, ?_⟩
    all_goals simp
  rintro m T H1 ⟨i, him, t0, t3, t4, rfl⟩ hw1 _
  have fl : (fillV 10 i n).length = n := fillV_len (by omega)
  by_cases hi : i < n
  · have hii : (i : Int) < n := by omega
    have wi : IntKind.i64.wrap ((i : Int) + 1) = ((i + 1 : Nat) : Int) := by rw [IntWalk.i64_in _ (by omega)]; omega
    have put := fillV_put (c := 10) hi
    have q1 : i + 1 ≤ n := by omega
    simp [t0, t3, t4, hi, hii, wi, fl, q1] at put ⊢
    simp [put]
    exact ⟨m - 1, by omega, i + 1, by omega, by omega, rfl⟩
  obtain rfl : n = i := by omega
  have ab : abytes (List.take n (fillV 10 n n)) = some (List.replicate n 10) := by
    rw [List.take_of_length_le (by omega), fillV, fillB_full]
    exact abytes_b _
  simp [t0, t3, t4, fl, ab]
  refine does_use (h1 _ (by simp; omega) _) ?_
  rintro _ _ ⟨rfl, rfl⟩
  simp
  obtain ⟨er, herr, hrun⟩ : ∃ er : Int, (er = if 400 < n then 2 else 0) ∧ ∀ H, Does Tryz.prog G 6 [.str (one (List.replicate n 10))] H fun r h => r = .tuple [.str [], .int .i64 er] ∧ h = H := by
    by_cases h : 400 < n
    · exact ⟨2, by rw [if_pos h], hm n h (by omega)⟩
    · exact ⟨0, by rw [if_neg h], hb n (by omega)⟩
  refine does_use (hrun _) ?_
  rintro _ _ ⟨rfl, rfl⟩
  simp [-arep, arep_u8 32]
  obtain ⟨N, hN⟩ : ∃ N : Nat, N = 32769 := ⟨_, rfl⟩
  rw [← hN] at hl ⊢
  refine aws_loopw (fun m T' H' => ∃ i : Nat, i + m = N ∧ T' 0 = .int .i64 n ∧ T' 5 = .str [] ∧ T' 6 = .int .i64 er ∧ T' 7 = .sl (H.next + 1) 0 1 N N false ∧ T' 8 = .int .i64 i ∧ H'.get (H.next + 1) = some (.cells (fillV 32 i N))) N ?_ ?_
  · refine ⟨0, by simp, ?_, ?_, ?_, ?_, ?_, ?_⟩
    all_goals simp [t0]
  rintro m T H1 ⟨i, him, t0, t5, t6, t7, t8, hg⟩ hw1 _
  have hN2 : N ≤ 40000 := by omega
  have fl : (fillV 32 i N).length = N := fillV_len (by omega)
  by_cases hi : i < N
  · have hii : (i : Int) < N := by omega
    have wi : IntKind.i64.wrap ((i : Int) + 1) = ((i + 1 : Nat) : Int) := by rw [IntWalk.i64_in _ (by omega)]; omega
    have put := fillV_put (c := 32) hi
    have q1 : i + 1 ≤ N := by omega
    simp [t0, t5, t6, t7, t8, hg, hi, hii, wi, fl, q1] at put ⊢
    simp [put]
    exact ⟨m - 1, by omega, i + 1, by omega, by omega, rfl⟩
  obtain rfl : N = i := by omega
  have ab2 : abytes (List.take N (fillV 32 N N)) = some (List.replicate N 32) := by
    rw [List.take_of_length_le (by omega), fillV, fillB_full]
    exact abytes_b _
  simp [t0, t5, t6, t7, t8, hg, fl, ab2]
  refine does_use (hl _) ?_
  rintro _ _ ⟨rfl, rfl⟩
  subst herr
  by_cases h : 400 < n
  · have h' : (400 : Int) < n := by omega
    simp [t0, t5, t6, t7, t8, h, h']
  · have h' : ¬ (400 : Int) < n := by omega
    simp [t0, t5, t6, t7, t8, h, h']
set_option maxRecDepth 100000 in
theorem limits_out (hA : ∀ H, Does Tryz.prog G 5 [] H fun r h => r = .bool true ∧ h = H) {n : Int} (h : n < 0 ∨ 500 < n) (H : AHeap) :
    Does Tryz.prog G 3 [.int .i64 n] H fun r _ => r = .bool true := by
  refine does_f Tryz.call3 Tryz.func3 rfl (by simp [Tryz.f3]) ?_
  simp
  refine does_use (hA _) ?_
  rintro _ H ⟨rfl, rfl⟩
  rcases h with h | h
  · simp [h]
  · have h1 : ¬ n < 0 := by omega
    simp [h, h1]
end Go.Proofs.YtajcehcdmbfhaaaGreatDoor

/-
  ScriptLimits, for whatever arguments.
-/



namespace Go.Proofs.YtajcehcdmbfhaaaGreatDoor
open Go Go.Abs
set_option maxRecDepth 100000

theorem limits_any (H : AHeap) (a0 : AV) (s0 : Shp Tryz.prog 8 3 [a0]) : Does Tryz.prog (Gof tab) 3 [a0] H fun r _ => r = .bool true := by
  unfold Shp at s0
  rw [Tryz.underlying3] at s0
  obtain ⟨n, hn, _⟩ := s0
  cases hn
  by_cases h : n < 0 ∨ 500 < n
  · exact limits_out (fun H => awake28 H) h H
  · obtain ⟨m, rfl⟩ : ∃ m : Nat, n = m := ⟨n.toNat, by omega⟩
    exact limits_in (one := withL oneP) (fun H => awake28 H) (fun x hx H => one_text x hx H) (fun n hn H => run_blank hn H) (fun n h1 h2 H => run_many h1 h2 H) (fun H => run_long (by omega) (by omega) H) (by omega) H
end Go.Proofs.YtajcehcdmbfhaaaGreatDoor
