/-
  Own library of this claim, part 4: texts one behind the other (LxW3, LxW4, LxW5, LxW6, LxW7, LxW8, LxA, LxE, LxBe, LxBeL).
-/
import Derived.Test.YtjopfgmnlibgjaaDoorLibLexBetweenC

/-
  Words: slices.Contains over strings; while, Kept, sign, between.
-/

namespace Go.Proofs.YtjopfgmnlibgjaaDoor
open Go Go.Abs Go.Lex
set_option linter.unusedSimpArgs false
variable {G : Nat → Option AV}

theorem sliceIndex (l : List Bs) (s : Bs) (i c : Nat) (op : Bool) (H : AHeap) (hi : H.get i = some (.cells (l.map .str))) (hl : l.length ≤ 1000000) :
    Does Tryd.prog G 27 [.sl i 0 1 l.length c op, .str s] H fun r H' => (if l.contains s then ∃ k : Nat, r = .int .i64 k else r = .int .i64 (-1)) ∧ H' = H := by
  refine does_f Tryd.call27 Tryd.func27 rfl (by simp [Tryd.f27]) ?_
  simp
  refine aws_loop (fun m T' H' => ∃ a b, l = a ++ b ∧ m = b.length ∧ s ∉ a ∧ T' 0 = .sl i 0 1 l.length c op ∧ T' 1 = .str s ∧ T' 7 = .int .i64 l.length ∧ T' 8 = .int .i64 a.length ∧ H' = H) l.length ⟨[], l, rfl, rfl, by simp, by simp⟩ ?_
  rintro m T H' ⟨a, b, rfl, rfl, hn, h0, h1, h7, h8, rfl⟩
  simp only [List.length_append] at hl h0 h7
  cases b with
  | nil => simp [h0, h1, h7, h8, hn]
  | cons t b =>
    simp only [List.length_cons] at hl
    have hlt : (a.length : Int) < a.length + (b.length + 1) := by omega
    have hle : a.length ≤ a.length + (b.length + 1) := by omega
    have hw : IntKind.i64.wrap ((a.length : Int) + 1) = a.length + 1 := IntWalk.i64_in _ (by omega)
    have hd : List.drop a.length (List.map AV.str a) = [] := by rw [List.drop_of_length_le]; simp
    by_cases e : s = t
    · subst e
      simp [h0, h1, h7, h8, hi, hlt, hle, hw, hd]
      exact ⟨a.length, rfl⟩
    · have e1 : (s == t) = false := by simpa using e
      simp [h0, h1, h7, h8, hi, hlt, hle, hw, hd, e1]
      exact ⟨b.length, by omega, a ++ [t], b, by simp, rfl, by simp [hn, e], by simp⟩

theorem sliceContains (l : List Bs) (s : Bs) (i c : Nat) (op : Bool) (H : AHeap) (hi : H.get i = some (.cells (l.map .str))) (hl : l.length ≤ 1000000) :
    Does Tryd.prog G 20 [.sl i 0 1 l.length c op, .str s] H fun r H' => r = .bool (l.contains s) ∧ H' = H := by
  refine does_f Tryd.call20 Tryd.func20 rfl (by simp [Tryd.f20]) ?_
  simp
  refine does_use (sliceIndex l s i c op H hi hl) ?_
  rintro r _ ⟨hr, rfl⟩
  cases hc : l.contains s with
  | true =>
    rw [hc, if_pos rfl] at hr
    obtain ⟨k, rfl⟩ := hr
    simp
  | false =>
    rw [hc] at hr
    simp only [Bool.false_eq_true, if_false] at hr
    subst hr
    simp

set_option maxRecDepth 100000 in
theorem kept_does (s : Bs) (H : AHeap) : Does Tryd.prog G 11 [.str s] H fun r H' => r = .bool (kept s) ∧ H' = H := by
  refine Does.forgot (R := fun r H' => r = .bool (kept s) ∧ ∀ j x, H.get j = some x → H'.get j = some x) ?_ ?_
  · refine Does.wf Tryd.call11 fun hw _ => ?_
    have old : ∀ j x, H.get j = some x → j ≠ H.next := fun j x hj => by have := next_lt hw hj; omega
    refine does_f Tryd.call11 Tryd.func11 rfl (by simp [Tryd.f11]) ?_
    simp
    refine does_use (sliceContains keptWords s H.next 21 false (H.push (.cells (keptWords.map .str))) (by simp) (by decide)) ?_
    rintro _ _ ⟨rfl, rfl⟩
    simp [kept]
    intro j x hj
    simp [hj, old j x hj]
  · rintro hw ha r H1 ⟨rfl, h⟩
    exact ⟨h, rfl, rfl, rfl⟩

theorem while_does (s set : Bs) (p : UInt8 → Bool) (hp : ∀ b, set.contains b = p b) (hc : ∀ b ∈ set, b.toNat < 128) (hl : set.length ≤ 1000000) (h2 : 2 ≤ set.length) (hs : s.length ≤ 1000000) (H : AHeap) :
    Does Tryd.prog G 21 [.str s, .str set] H fun r H' => r = .int .i64 (s.takeWhile p).length ∧ H' = H := by
  refine does_f Tryd.call21 Tryd.func21 rfl (by simp [Tryd.f21]) ?_
  simp
  refine does_use (trimLeft s set p hp hc hl h2 H) ?_
  rintro _ _ ⟨rfl, rfl⟩
  have e : s.length = (s.takeWhile p).length + (s.dropWhile p).length := by rw [← List.length_append, List.takeWhile_append_dropWhile]
  have hw : IntKind.i64.wrap ((s.length : Int) - (s.dropWhile p).length) = (s.takeWhile p).length := by
    rw [IntWalk.i64_in _ (by omega)]; omega
  simp [hw]

set_option maxRecDepth 100000 in
theorem sign_does (s : Bs) (H : AHeap) : Does Tryd.prog G 26 [.str s] H fun r H' => (match signOf s with | some t => r = .tuple [.agg [.int .i64 4, .str t, .int .i64 0, .int .i64 0], .bool true] | none => r = .tuple [.agg [.int .i64 0, .str [], .int .i64 0, .int .i64 0], .bool false]) ∧ H' = H := by
  refine Does.forgot (R := fun r H' => (match signOf s with | some t => r = .tuple [.agg [.int .i64 4, .str t, .int .i64 0, .int .i64 0], .bool true] | none => r = .tuple [.agg [.int .i64 0, .str [], .int .i64 0, .int .i64 0], .bool false]) ∧ ∀ j x, H.get j = some x → H'.get j = some x) ?_ ?_
  · refine Does.wf Tryd.call26 fun hw _ => ?_
    have old : ∀ j x, H.get j = some x → j ≠ H.next ∧ j ≠ H.next + 1 := fun j x hj => by have := next_lt hw hj; omega
    have hkeep : ∀ x y, ∀ j z, H.get j = some z → ((H.push x).push y).get j = some z := fun x y j z hj => by simp [hj, old j z hj]
    refine does_f Tryd.call26 Tryd.func26 rfl (by simp [Tryd.f26]) ?_
    simp
    refine aws_loop (fun m T' H' => ∃ a b, signs = a ++ b ∧ m = b.length ∧ a.find? (fun x => x.isPrefixOf s) = none ∧ T' 0 = .str s ∧ T' 2 = .ptr H.next 0 ∧ T' 6 = .sl (H.next + 1) 0 1 16 16 false ∧ T' 7 = .int .i64 16 ∧ T' 8 = .int .i64 a.length ∧ T' 3 = .bool false ∧
      H' = (H.push (.cells [.int .i64 0, .str [], .int .i64 0, .int .i64 0])).push (.cells (signs.map .str))) 16 ⟨[], signs, rfl, rfl, rfl, by simp [signs]⟩ ?_
    rintro m T H' ⟨a, b, hab, rfl, hn, h0, h2, h6, h7, h8, h3, rfl⟩
    have hlen : a.length + b.length = 16 := by rw [← List.length_append, ← hab]; rfl
    cases b with
    | nil =>
      have ha : a.length = 16 := by simpa using hlen
      have hs : signOf s = none := by
        unfold signOf
        rw [hab, List.append_nil]; exact hn
      simp [h0, h2, h6, h7, h8, ha, hs]
      intro j x hj
      simp [hj, old j x hj]
    | cons t b =>
      simp only [List.length_cons] at hlen
      have hlt : (a.length : Int) < 16 := by omega
      have hlt2 : a.length ≤ 16 := by omega
      have hlt3 : a.length < 16 := by omega
      have hw1 : IntKind.i64.wrap ((a.length : Int) + 1) = a.length + 1 := IntWalk.i64_in _ (by omega)
      have hd : List.drop a.length (List.map AV.str signs) = .str t :: b.map .str := by
        rw [hab, List.map_append, List.drop_left' (by simp)]; rfl
      have hsl : signs.length = 16 := rfl
      simp [h0, h2, h6, h7, h8, hlt, hlt2, hlt3, hd, hsl]
      refine does_use (hasPrefix s t _) ?_
      rintro _ _ ⟨rfl, rfl⟩
      cases hp : t.isPrefixOf s with
      | true =>
        have hs : signOf s = some t := by
          unfold signOf
          rw [hab, List.find?_append, hn]
          simp [hp]
        simp [h0, h2, h6, h7, h8, hs]
        intro j x hj
        simp [hj, old j x hj]
      | false =>
        simp [h0, h2, h6, h7, h8, hw1]
        refine ⟨b.length, by omega, a ++ [t], b, by simp [hab], rfl, ?_, ?_⟩
        · rw [List.find?_eq_none] at hn
          intro x hx
          simp only [List.mem_append, List.mem_singleton] at hx
          rcases hx with hx | rfl
          · have := hn x hx
            rw [← List.isPrefixOf_iff_prefix]; simpa using this
          · rw [← List.isPrefixOf_iff_prefix, hp]; simp
        · simp [h3]
  · rintro hw ha r H1 ⟨hr, h⟩
    refine ⟨h, ?_, hr, rfl⟩
    cases hs : signOf s <;> rw [hs] at hr <;> subst hr <;> rfl
end Go.Proofs.YtjopfgmnlibgjaaDoor

/-
  Words: between.
-/

namespace Go.Proofs.YtjopfgmnlibgjaaDoor
open Go Go.Abs Go.Lex
set_option linter.unusedSimpArgs false
variable {G : Nat → Option AV}

theorem drop_takeWhile (p : UInt8 → Bool) : ∀ s : Bs, s.drop (s.takeWhile p).length = s.dropWhile p
  | [] => rfl
  | b :: s => by
    rw [List.takeWhile_cons, List.dropWhile_cons]
    split
    · simpa using drop_takeWhile p s
    · rfl

theorem betw_line (s q : Bs) (h : s.dropWhile isBlank = 45 :: 45 :: q) : betw s = betw (q.dropWhile fun b => b != 10) := by
  rw [betw]
  split
  · rename_i q' h'
    rw [h] at h'
    simp only [List.cons.injEq, true_and] at h'
    rw [h']
  · rename_i h'
    exact absurd h (h' q)
theorem betw_word (s : Bs) (h : ([45, 45] : Bs).isPrefixOf (s.dropWhile isBlank) = false) : betw s = s.dropWhile isBlank := by
  rw [betw]
  split
  · rename_i q hq
    rw [hq] at h
    simp [List.isPrefixOf] at h
  · rfl
theorem betw_nil : betw [] = [] := betw_word [] rfl
@[simp] theorem take_drop_all {α : Type} (l : List α) (n : Nat) : List.take (l.length - n) (l.drop n) = l.drop n := by rw [List.take_of_length_le]; simp

theorem idxB_none {s : Bs} {c : UInt8} (h : s.findIdx? (fun b => b == c) = none) : s.dropWhile (fun b => b != c) = [] := by
  rw [List.findIdx?_eq_none_iff] at h
  induction s with
  | nil => rfl
  | cons b s ih =>
    rw [List.dropWhile_cons]
    have := h b (by simp)
    have e : (b != c) = true := by simp only [bne, this]; rfl
    rw [if_pos e]
    exact ih fun x hx => h x (by simp [hx])

theorem idxB_some {s : Bs} {c : UInt8} {i : Nat} (h : s.findIdx? (fun b => b == c) = some i) : s.dropWhile (fun b => b != c) = s.drop i ∧ i < s.length := by
  induction s generalizing i with
  | nil => simp at h
  | cons b s ih =>
    rw [List.findIdx?_cons] at h
    rw [List.dropWhile_cons]
    by_cases e : b = c
    · subst e
      simp at h
      subst h
      simp
    · have e1 : (b == c) = false := by simpa using e
      have e2 : (b != c) = true := by simp [bne, e1]
      rw [e1] at h
      simp only [Bool.false_eq_true, if_false, Option.map_eq_some_iff] at h
      obtain ⟨j, hj, rfl⟩ := h
      obtain ⟨h1, h2⟩ := ih hj
      rw [if_pos e2]
      exact ⟨by simpa using h1, by simp; omega⟩

theorem blankSet (b : UInt8) : ([32, 9, 10, 13] : Bs).contains b = isBlank b := by
  rw [Bool.eq_iff_iff]
  simp [isBlank, or_assoc]

theorem between_does (s : Bs) (hl : s.length ≤ 1000000) (H : AHeap) : Does Tryd.prog G 14 [.str s] H fun r H' => (∃ n : Nat, r = .int .i64 n ∧ n ≤ s.length ∧ s.drop n = betw s) ∧ H' = H := by
  refine does_f Tryd.call14 Tryd.func14 rfl (by simp [Tryd.f14]) ?_
  simp
  refine aws_loop (fun m T' H' => ∃ n : Nat, n ≤ s.length ∧ m = s.length - n ∧ betw (s.drop n) = betw s ∧ T' 0 = .str s ∧ T' 3 = .int .i64 n ∧ H' = H) s.length ⟨0, by omega, by omega, rfl, by simp⟩ ?_
  rintro m T H' ⟨n, hn, rfl, hb, h0, h3, rfl⟩
  have hn1 : (n : Int) ≤ s.length := by omega
  simp [h0, h3, hn, hn1]
  have hdl : (s.drop n).length = s.length - n := by simp
  refine does_use (while_does (s.drop n) _ isBlank blankSet (by decide) (by decide) (by decide) (by omega) _) ?_
  rintro _ _ ⟨rfl, rfl⟩
  have htl : ((s.drop n).takeWhile isBlank).length ≤ s.length - n := by
    rw [← hdl]; exact (List.takeWhile_prefix isBlank).length_le
  have hdd : s.drop (n + ((s.drop n).takeWhile isBlank).length) = (s.drop n).dropWhile isBlank := by
    rw [← List.drop_drop, drop_takeWhile]
  obtain ⟨k, hk⟩ : ∃ k, k = ((s.drop n).takeWhile isBlank).length := ⟨_, rfl⟩
  rw [← hk] at htl hdd ⊢
  obtain ⟨j, hj⟩ : ∃ j, j = n + k := ⟨_, rfl⟩
  have hw1 : IntKind.i64.wrap ((n : Int) + k) = (j : Int) := by rw [IntWalk.i64_in _ (by omega)]; omega
  have hk1 : (j : Int) ≤ s.length := by omega
  have hk2 : j ≤ s.length := by omega
  rw [← hj] at hdd
  simp [h0, h3, hw1, hk1, hk2]
  refine does_use (hasPrefix (s.drop j) [45, 45] _) ?_
  rintro _ _ ⟨rfl, rfl⟩
  cases hp : ([45, 45] : Bs).isPrefixOf (s.drop j) with
  | false =>
    simp [h0, h3]
    refine ⟨j, rfl, hk2, ?_⟩
    rw [← hb, betw_word _ (by rw [← hdd]; exact hp), hdd]
  | true =>
    simp [h0, h3, hk1, hk2]
    refine does_use (indexByte (s.drop j) 10 _) ?_
    rintro _ _ ⟨rfl, rfl⟩
    obtain ⟨q, hq⟩ : ∃ q, s.drop j = 45 :: 45 :: q := by
      rw [List.isPrefixOf_iff_prefix] at hp
      obtain ⟨t, ht⟩ := hp
      exact ⟨t, ht.symm⟩
    have hbq : betw s = betw ((s.drop j).dropWhile fun b => b != 10) := by
      rw [← hb, betw_line _ q (by rw [← hdd]; exact hq), hq]
      rfl
    unfold idxB
    cases hf : (s.drop j).findIdx? (fun b => b == 10) with
    | none =>
      simp [h0, h3]
      refine ⟨s.length, rfl, Nat.le_refl _, ?_⟩
      rw [hbq, idxB_none hf, betw_nil]; simp
    | some i =>
      obtain ⟨g1, g2⟩ := idxB_some hf
      have g3 : ¬ ((i : Int) < 0) := by omega
      have hi2 : 2 ≤ i := by
        rw [hq] at hf
        rw [List.findIdx?_cons, List.findIdx?_cons] at hf
        simp at hf
        omega
      simp only [List.length_drop] at g2
      have hw2 : IntKind.i64.wrap ((j : Int) + i) = ((j + i : Nat) : Int) := by rw [IntWalk.i64_in _ (by omega)]; omega
      simp [h0, h3, g3, hw2]
      refine ⟨s.length - (j + i), by omega, j + i, by omega, rfl, ?_, by omega⟩
      rw [hbq, g1, List.drop_drop]
end Go.Proofs.YtjopfgmnlibgjaaDoor

/-
  strconv.ParseInt at a row of digits.
-/

namespace Go.Proofs.YtjopfgmnlibgjaaDoor
open Go Go.Abs Go.Lex
set_option linter.unusedSimpArgs false
variable {G : Nat → Option AV}

theorem numVal_snoc (s : Bs) (b : UInt8) : numVal (s ++ [b]) = 10 * numVal s + (b.toNat - 48) := by simp [numVal]
theorem numVal_ge (a : Bs) : ∀ b : Bs, numVal a ≤ numVal (a ++ b) := by
  intro b
  induction b generalizing a with
  | nil => simp
  | cons c b ih =>
    have := ih (a ++ [c])
    rw [numVal_snoc, List.append_assoc] at this
    simp only [List.singleton_append] at this
    omega

theorem strCs_append' (a b : Bs) : strCs (a ++ b) = strCs a ++ strCs b := by simp [strCs]

theorem wrap_u64 (n : Int) (h0 : 0 ≤ n) (h1 : n < 18446744073709551616) : IntKind.u64.wrap n = n := by
  unfold IntKind.wrap
  simp only [IntKind.signed, IntKind.bits, Bool.false_and, Bool.false_eq_true, if_false]
  exact Int.emod_eq_of_lt h0 (by omega)
theorem wrap_u64' (n : Int) (h0 : 18446744073709551616 ≤ n) (h1 : n < 36893488147419103232) : IntKind.u64.wrap n = n - 18446744073709551616 := by
  unfold IntKind.wrap
  simp only [IntKind.signed, IntKind.bits, Bool.false_and, Bool.false_eq_true, if_false]
  omega
theorem wrap_u8 (n : Int) (h0 : 0 ≤ n) (h1 : n < 256) : IntKind.u8.wrap n = n := by
  unfold IntKind.wrap
  simp only [IntKind.signed, IntKind.bits, Bool.false_and, Bool.false_eq_true, if_false]
  exact Int.emod_eq_of_lt h0 (by omega)

@[simp] theorem concErr : Tryd.prog.concrete 74 = true := by kernel_rfl
@[simp] theorem concNum : Tryd.prog.concrete 77 = true := by kernel_rfl

/-- The answer of ParseUint. -/
def uintOf (s : Bs) : AV := if numVal s < 18446744073709551616 then .tuple [.int .u64 (numVal s), .niliface] else .tuple [.int .u64 18446744073709551615, .iface 74 (.int .i64 1)]

set_option maxRecDepth 100000 in
theorem parseUint (s : Bs) (hd : ∀ b ∈ s, isDigit b = true) (hs : s ≠ []) (hl : s.length ≤ 1000000) (H : AHeap) :
    Does Tryd.prog G 47 [.str s, .int .i64 10, .int .i64 64] H fun r H' => r = uintOf s ∧ H' = H := by
  refine Does.forgot (R := fun r H' => r = uintOf s ∧ ∀ j x, H.get j = some x → H'.get j = some x) ?_ ?_
  · refine Does.wf Tryd.call47 fun hw _ => ?_
    have old : ∀ j x, H.get j = some x → j ≠ H.next := fun j x hj => by have := next_lt hw hj; omega
    refine does_f Tryd.call47 Tryd.func47 rfl (by simp [Tryd.f47]) ?_
    have hs1 : s.isEmpty = false := by cases s <;> simp_all
    have e1 : IntKind.u64.wrap 64 = 64 := by decide
    have e2 : IntKind.u64.wrap (2 ^ min 64 IntKind.u64.bits) = 0 := by decide
    have e3 : IntKind.u64.wrap (-1) = 18446744073709551615 := by decide
    simp [hs1, e1, e2, e3]
    refine aws_loop (fun m T' H' => ∃ a b, s = a ++ b ∧ m = b.length ∧ numVal a < 18446744073709551616 ∧ T' 1 = .int .i64 10 ∧ T' 8 = .bool false ∧ T' 10 = .int .u64 1844674407370955162 ∧ T' 11 = .int .u64 18446744073709551615 ∧ T' 12 = .bool false ∧ T' 13 = .int .u64 (numVal a) ∧
      T' 99 = .sl H.next 0 1 s.length s.length true ∧ T' 100 = .int .i64 s.length ∧ T' 101 = .int .i64 a.length ∧ H' = H.push (.cells (strCs s))) s.length ⟨[], s, rfl, rfl, by decide, by simp [numVal, strCs]⟩ ?_
    rintro m T H' ⟨a, b, rfl, rfl, hv, h1, h8, h10, h11, h12, h13, h99, h100, h101, rfl⟩
    simp only [List.length_append] at hl h99 h100
    cases b with
    | nil =>
      simp [h1, h8, h10, h11, h12, h13, h99, h100, h101]
      refine ⟨?_, ?_⟩
      · simp [uintOf, hv]
      · intro j x hj
        simp [hj, old j x hj]
    | cons c b =>
      simp only [List.length_cons] at hl
      have hc := hd c (by simp)
      simp only [isDigit, Bool.and_eq_true, decide_eq_true_eq] at hc
      obtain ⟨hc1, hc2⟩ := hc
      obtain ⟨d, hdd⟩ : ∃ d, d = c.toNat - 48 := ⟨_, rfl⟩
      have hlt : (a.length : Int) < a.length + (b.length + 1) := by omega
      have hle : a.length ≤ a.length + (b.length + 1) := by omega
      have hw1 : IntKind.i64.wrap ((a.length : Int) + 1) = a.length + 1 := IntWalk.i64_in _ (by omega)
      have hdr : List.drop a.length (strCs (a ++ c :: b)) = .int .u8 c.toNat :: strCs b := by
        rw [strCs_append', List.drop_left' (by simp [strCs])]; rfl
      have hsl : (strCs (a ++ c :: b)).length = a.length + (b.length + 1) := by simp [strCs]
      have n1 : ¬ (c.toNat : Int) = 95 := by omega
      have n2 : (48 : Int) ≤ c.toNat := by omega
      have n3 : (c.toNat : Int) ≤ 57 := by omega
      have n4 : IntKind.u8.wrap ((c.toNat : Int) - 48) = d := by rw [wrap_u8 _ (by omega) (by omega)]; omega
      have n5 : IntKind.u8.wrap 10 = 10 := by decide
      have n6 : ¬ (10 : Int) ≤ d := by omega
      have n7 : IntKind.u64.wrap 10 = 10 := by decide
      have n8 : IntKind.u64.wrap (d : Int) = d := wrap_u64 _ (by omega) (by omega)
      have hn : numVal (a ++ [c]) = 10 * numVal a + d := by rw [numVal_snoc]; omega
      have hge := numVal_ge (a ++ [c]) b
      rw [List.append_assoc, List.singleton_append] at hge
      obtain ⟨v, hvv⟩ : ∃ v, v = numVal a := ⟨_, rfl⟩
      rw [← hvv] at hv h13 hn
      by_cases g1 : 1844674407370955162 ≤ v
      · have g1' : (1844674407370955162 : Int) ≤ v := by omega
        have hbig : ¬ numVal (a ++ c :: b) < 18446744073709551616 := by omega
        simp [h1, h8, h10, h11, h12, h13, h99, h100, h101, hlt, hle, hdr, hsl, n1, n2, n3, n4, n5, n6, n7, n8, g1']
        refine ⟨?_, ?_⟩
        · unfold uintOf; rw [if_neg hbig]
        · intro j x hj
          simp [hj, old j x hj]
      · have g1' : ¬ (1844674407370955162 : Int) ≤ v := by omega
        have m1 : IntKind.u64.wrap ((v : Int) * 10) = v * 10 := wrap_u64 _ (by omega) (by omega)
        by_cases g2 : 10 * v + d < 18446744073709551616
        · have m2 : IntKind.u64.wrap ((v : Int) * 10 + d) = v * 10 + d := wrap_u64 _ (by omega) (by omega)
          have m3 : ¬ ((v : Int) * 10 + d < v * 10) := by omega
          have m4 : ¬ ((18446744073709551615 : Int) < v * 10 + d) := by omega
          simp [h1, h8, h10, h11, h12, h13, h99, h100, h101, hlt, hle, hdr, hsl, n1, n2, n3, n4, n5, n6, n7, n8, g1', m1, m2, m3, m4, hw1]
          refine ⟨b.length, by omega, a ++ [c], b, by simp, rfl, by omega, ?_⟩
          simp [hn]
          omega
        · have m2 : IntKind.u64.wrap ((v : Int) * 10 + d) = v * 10 + d - 18446744073709551616 := wrap_u64' _ (by omega) (by omega)
          have m3 : ((v : Int) * 10 + d - 18446744073709551616 < v * 10) := by omega
          have hbig : ¬ numVal (a ++ c :: b) < 18446744073709551616 := by omega
          simp [h1, h8, h10, h11, h12, h13, h99, h100, h101, hlt, hle, hdr, hsl, n1, n2, n3, n4, n5, n6, n7, n8, g1', m1, m2, m3]
          refine ⟨?_, ?_⟩
          · unfold uintOf; rw [if_neg hbig]
          · intro j x hj
            simp [hj, old j x hj]
  · rintro hw ha r H1 ⟨rfl, h⟩
    refine ⟨h, ?_, rfl, rfl⟩
    unfold uintOf; split <;> rfl
end Go.Proofs.YtjopfgmnlibgjaaDoor

/-
  strconv.ParseInt at a row of digits; a number's word.
-/




namespace Go.Proofs.YtjopfgmnlibgjaaDoor
open Go Go.Abs Go.Lex
set_option linter.unusedSimpArgs false
variable {G : Nat → Option AV}

theorem wrap_i64 (n : Int) (h0 : 0 ≤ n) (h1 : n < 9223372036854775808) : IntKind.i64.wrap n = n := IntWalk.i64_in _ (by omega)

/-- The answer of ParseInt. -/
def intOf (s : Bs) : AV := if numVal s < 9223372036854775808 then .tuple [.int .i64 (numVal s), .niliface] else .tuple [.int .i64 9223372036854775807, .iface 74 (.int .i64 1)]

set_option maxRecDepth 100000 in
theorem parseInt (s : Bs) (hd : ∀ b ∈ s, isDigit b = true) (hs : s ≠ []) (hl : s.length ≤ 1000000) (H : AHeap) :
    Does Tryd.prog G 39 [.str s, .int .i64 10, .int .i64 64] H fun r H' => r = intOf s ∧ H' = H := by
  refine does_f Tryd.call39 Tryd.func39 rfl (by simp [Tryd.f39]) ?_
  cases s with
  | nil => exact absurd rfl hs
  | cons c q =>
    have hc := hd c (by simp)
    simp only [isDigit, Bool.and_eq_true, decide_eq_true_eq] at hc
    have n1 : ¬ (c.toNat : Int) = 43 := by omega
    have n2 : ¬ (c.toNat : Int) = 45 := by omega
    have m1 : (0 : Int) < q.length + 1 := by omega
    simp [n1, n2, m1]
    refine does_use (parseUint (c :: q) hd hs hl H) ?_
    rintro _ _ ⟨rfl, rfl⟩
    have e1 : IntKind.u64.wrap 63 = 63 := by decide
    have e2 : IntKind.u64.wrap (2 ^ min 63 IntKind.u64.bits) = 9223372036854775808 := by decide
    have e3 : IntKind.u64.wrap 9223372036854775807 = 9223372036854775807 := by decide
    have e4 : IntKind.i64.wrap 9223372036854775807 = 9223372036854775807 := by decide
    have e5 : IntKind.i64.wrap 63 = 63 := by decide
    have e6 : Tryd.t74.comparable = true := by kernel_rfl
    obtain ⟨v, hv⟩ : ∃ v, v = numVal (c :: q) := ⟨_, rfl⟩
    unfold uintOf intOf
    rw [← hv]
    by_cases g1 : v < 9223372036854775808
    · have g2 : v < 18446744073709551616 := by omega
      have g3 : ¬ (9223372036854775808 : Int) ≤ v := by omega
      have g4 : IntKind.i64.wrap (v : Int) = v := wrap_i64 _ (by omega) (by omega)
      rw [if_pos g2, if_pos g1]
      simp [e1, e2, e3, e4, e5, e6, g3, g4]
    · rw [if_neg g1]
      by_cases g2 : v < 18446744073709551616
      · have g3 : (9223372036854775808 : Int) ≤ v := by omega
        rw [if_pos g2]
        simp [e1, e2, e3, e4, e5, e6, g3]
      · rw [if_neg g2]
        simp [e1, e2, e3, e4, e5, e6]

theorem mixedOrders : Tryd.prog.follows .mixedOrders = true := by kernel_rfl

/-- The library's own error value is there. -/
def HasErr (G : Nat → Option AV) : Prop := ∃ t v, G 2 = some (.vptr [.iface t v])

set_option maxRecDepth 100000 in
theorem rangeError (s : Bs) (fn : Bs) (hl : s.length ≤ 1000000) (hG : HasErr G) (H : AHeap) : Does Tryd.prog G 49 [.str fn, .str s] H fun r H' => r = .ptr H.next 0 ∧ ∃ cs, H' = H.push (.cells cs) := by
  obtain ⟨et, ev, he⟩ := hG
  refine does_f Tryd.call49 Tryd.func49 rfl (by simp [Tryd.f49]) ?_
  simp
  refine aw_drawn [(3, 0), (3, 3)] ?_ ?_ ?_
  · exact mixedOrders
  · kernel_rfl
  intro es hes
  simp
  refine ⟨_, _, copy_does isCopy s (by omega) H, by simp, ?_⟩
  simp [he, rds, heapF]
  refine ⟨?_, _, rfl⟩
  subst hes
  exact ⟨by kernel_rfl, by kernel_rfl⟩

set_option maxRecDepth 100000 in
theorem toError (s : Bs) (fn : Bs) (hl : s.length ≤ 1000000) (hG : HasErr G) (H : AHeap) : Does Tryd.prog G 40 [.str fn, .str s, .int .i64 10, .int .i64 64, .iface 74 (.int .i64 1)] H fun r H' => r = .iface 77 (.ptr H.next 0) ∧ ∃ cs, H' = H.push (.cells cs) := by
  have e6 : Tryd.t74.comparable = true := by kernel_rfl
  refine does_f Tryd.call40 Tryd.func40 rfl (by simp [Tryd.f40]) ?_
  simp [e6]
  refine does_use (rangeError s fn hl hG H) ?_
  rintro _ _ ⟨rfl, cs, rfl⟩
  simp
  exact ⟨cs, rfl⟩

set_option maxRecDepth 100000 in
theorem parseInt' (s : Bs) (hd : ∀ b ∈ s, isDigit b = true) (hs : s ≠ []) (hl : s.length ≤ 1000000) (hG : HasErr G) (H : AHeap) :
    Does Tryd.prog G 32 [.str s, .int .i64 10, .int .i64 64] H fun r H' => (if numVal s < 9223372036854775808 then r = .tuple [.int .i64 (numVal s), .niliface] ∧ H' = H else r = .tuple [.int .i64 9223372036854775807, .iface 77 (.ptr H.next 0)] ∧ ∃ cs, H' = H.push (.cells cs)) := by
  refine does_f Tryd.call32 Tryd.func32 rfl (by simp [Tryd.f32]) ?_
  simp
  refine does_use (parseInt s hd hs hl H) ?_
  rintro _ _ ⟨rfl, rfl⟩
  unfold intOf
  by_cases h : numVal s < 9223372036854775808
  · rw [if_pos h]
    simp [h]
  · rw [if_neg h]
    simp [h]
    refine does_use (toError s _ hl hG _) ?_
    rintro _ _ ⟨rfl, cs, rfl⟩
    simp
    exact ⟨by omega, cs, rfl⟩

/-- What a row of digits gives. -/
def numN (s : Bs) : Int := if numVal s < 9223372036854775808 then numVal s else 9223372036854775807
def numOk (s : Bs) : Bool := decide (numVal s < 9223372036854775808) && (decide (s.length = 1) || decide (s.head? ≠ some 48))

set_option maxRecDepth 100000 in
theorem number_does (s : Bs) (hd : ∀ b ∈ s, isDigit b = true) (hs : s ≠ []) (hl : s.length ≤ 1000000) (hG : HasErr G) (H : AHeap) :
    Does Tryd.prog G 25 [.str s] H fun r H' => r = .tuple [.agg [.int .i64 3, .str s, .int .i64 (numN s), .int .i64 0], .bool (numOk s)] ∧ H' = H := by
  refine Does.forgot (R := fun r H' => r = .tuple [.agg [.int .i64 3, .str s, .int .i64 (numN s), .int .i64 0], .bool (numOk s)] ∧ ∀ j x, H.get j = some x → H'.get j = some x) ?_ ?_
  · refine Does.wf Tryd.call25 fun hw _ => ?_
    have old : ∀ j x, H.get j = some x → j ≠ H.next ∧ j ≠ H.next + 1 := fun j x hj => by have := next_lt hw hj; omega
    refine does_f Tryd.call25 Tryd.func25 rfl (by simp [Tryd.f25]) ?_
    simp
    refine does_use (parseInt' s hd hs hl hG _) ?_
    rintro r H1 hr
    obtain ⟨c, q, rfl⟩ : ∃ c q, s = c :: q := by
      cases s with
      | nil => exact absurd rfl hs
      | cons c q => exact ⟨c, q, rfl⟩
    have h0 : (0 : Int) < q.length + 1 := by omega
    have hg : (if numVal (c :: q) < 9223372036854775808 then r = .tuple [.int .i64 (numVal (c :: q)), .niliface] else ∃ i, r = .tuple [.int .i64 9223372036854775807, .iface 77 (.ptr i 0)]) ∧ H1.get H.next = some (.cells [.int .i64 0, .str [], .int .i64 0, .int .i64 0]) ∧ ∀ j x, H.get j = some x → H1.get j = some x := by
      by_cases h : numVal (c :: q) < 9223372036854775808
      · rw [if_pos h] at hr ⊢
        obtain ⟨rfl, rfl⟩ := hr
        exact ⟨rfl, by simp, fun j x hj => by simp [hj, old j x hj]⟩
      · rw [if_neg h] at hr ⊢
        obtain ⟨rfl, cs, rfl⟩ := hr
        exact ⟨⟨_, rfl⟩, by simp, fun j x hj => by simp [hj, old j x hj]⟩
    clear hr
    obtain ⟨hr, hf, hk⟩ := hg
    have fin : ∀ j x, H.get j = some x → ∀ cs, (H1.set H.next (.cells cs)).get j = some x := fun j x hj cs => by
      simp only [AHeap.get_set]
      rw [if_neg (old j x hj).1]; exact hk j x hj
    by_cases h : numVal (c :: q) < 9223372036854775808
    · rw [if_pos h] at hr
      subst hr
      simp
      refine aw_drawn [] mixedOrders (by kernel_rfl) ?_
      intro es hes
      by_cases hq : q = []
      · subst hq
        simp [hf, rds]
        refine ⟨?_, ?_, fun j x hj => ?_⟩
        · subst hes
          exact ⟨by kernel_rfl, by kernel_rfl⟩
        · simp [numN, numOk, h]
        · simp [old j x hj, hk j x hj]
      · have hq0 : q.length ≠ 0 := by simpa using hq
        have hq1 : ¬ ((q.length : Int) + 1 = 1) := by omega
        have hq2 : ((c.toNat : Int) = 48) ↔ c = 48 := by
          constructor
          · intro e
            have e1 : c.toNat = (48 : UInt8).toNat := by simpa using (by omega : c.toNat = 48)
            exact UInt8.toNat_inj.1 e1
          · rintro rfl; rfl
        simp [hf, rds, hq, hq1, h0]
        refine ⟨?_, ?_, fun j x hj => ?_⟩
        · subst hes
          exact ⟨by kernel_rfl, by kernel_rfl⟩
        · have hq3 : ((c.toNat : Int) != 48) = !decide (c = 48) := by
            rw [Bool.eq_iff_iff]
            simp [hq2]
          simp [numN, numOk, h, hq, hq3]
        · simp [old j x hj, hk j x hj]
    · rw [if_neg h] at hr
      obtain ⟨i, rfl⟩ := hr
      simp
      refine aw_drawn [] mixedOrders (by kernel_rfl) ?_
      intro es hes
      simp [hf, rds]
      refine ⟨?_, ?_, fun j x hj => ?_⟩
      · subst hes
        exact ⟨by kernel_rfl, by kernel_rfl⟩
      · simp [numN, numOk, h]
      · simp [old j x hj, hk j x hj]
  · rintro hw ha r H1 ⟨rfl, h⟩
    exact ⟨h, rfl, rfl, rfl⟩
end Go.Proofs.YtjopfgmnlibgjaaDoor

/-
  Words: the word that a text begins with.
-/

namespace Go.Proofs.YtjopfgmnlibgjaaDoor
open Go Go.Abs Go.Lex
set_option linter.unusedSimpArgs false
variable {G : Nat → Option AV}

def lettersL : Bs := [97,98,99,100,101,102,103,104,105,106,107,108,109,110,111,112,113,114,115,116,117,118,119,120,121,122]
def digitsL : Bs := [48,49,50,51,52,53,54,55,56,57]
def namesL : Bs := [97,98,99,100,101,102,103,104,105,106,107,108,109,110,111,112,113,114,115,116,117,118,119,120,121,122,48,49,50,51,52,53,54,55,56,57,95]

theorem byAll (p q : UInt8 → Bool) (h : ∀ n : Fin 256, p (UInt8.ofNat n.val) = q (UInt8.ofNat n.val)) (b : UInt8) : p b = q b := by
  have := h ⟨b.toNat, b.toNat_lt⟩
  simpa using this
theorem letters_eq (b : UInt8) : lettersL.contains b = isLetter b := byAll _ _ (by decide +kernel) b
theorem digits_eq (b : UInt8) : digitsL.contains b = isDigit b := byAll _ _ (by decide +kernel) b
theorem names_eq (b : UInt8) : namesL.contains b = isNamec b := byAll _ _ (by decide +kernel) b

theorem take_takeWhile (p : UInt8 → Bool) (s : Bs) : s.take (s.takeWhile p).length = s.takeWhile p := by
  have := List.takeWhile_prefix p (l := s)
  rw [List.prefix_iff_eq_take] at this
  exact this.symm

/-- A word's cells. -/
def wdCells (w : Wd) (i : Nat) : List AV := [.int .i64 w.kind, .str w.text, .int .i64 w.n, .int .i64 i]

def WordIs (s : Bs) (r : AV) : Prop := match wordS s with
  | some w => r = .tuple [.agg (wdCells w 0), .bool true]
  | none => ∃ k t n, r = .tuple [.agg [.int .i64 k, .str t, .int .i64 n, .int .i64 0], .bool false]

set_option maxRecDepth 100000 in
theorem word_does (c : UInt8) (q : Bs) (hl : (c :: q).length ≤ 1000000) (hG : HasErr G) (H : AHeap) : Does Tryd.prog G 15 [.str (c :: q)] H fun r H' => WordIs (c :: q) r ∧ H' = H := by
  refine Does.forgot (R := fun r H' => WordIs (c :: q) r ∧ ∀ j x, H.get j = some x → H'.get j = some x) ?_ ?_
  · refine Does.wf Tryd.call15 fun hw _ => ?_
    have old : ∀ j x, H.get j = some x → j ≠ H.next ∧ j ≠ H.next + 1 := fun j x hj => by have := next_lt hw hj; omega
    refine does_f Tryd.call15 Tryd.func15 rfl (by simp [Tryd.f15]) ?_
    have m1 : (1 : Int) ≤ q.length + 1 := by omega
    simp [m1]
    refine does_use (contains1 lettersL c _) ?_
    rintro _ _ ⟨rfl, rfl⟩
    rw [letters_eq]
    cases hL : isLetter c with
    | true =>
      simp
      refine does_use (while_does (c :: q) namesL isNamec names_eq (by decide) (by decide) (by decide) hl _) ?_
      rintro _ _ ⟨rfl, rfl⟩
      have ht := take_takeWhile isNamec (c :: q)
      have hle : ((c :: q).takeWhile isNamec).length ≤ (c :: q).length := (List.takeWhile_prefix isNamec).length_le
      obtain ⟨t, htt⟩ : ∃ t, t = (c :: q).takeWhile isNamec := ⟨_, rfl⟩
      rw [← htt] at ht hle ⊢
      simp only [List.length_cons] at hle
      have hle' : (t.length : Int) ≤ q.length + 1 := by omega
      simp [hle, hle', ht]
      refine does_use (kept_does t _) ?_
      rintro _ _ ⟨rfl, rfl⟩
      cases hk : kept t with
      | true =>
        simp
        refine ⟨?_, ?_⟩
        · simp [WordIs, wordS, hL, ← htt, hk, wdCells]
        · intro j x hj
          simp [hj, old j x hj]
      | false =>
        simp
        refine ⟨?_, ?_⟩
        · by_cases h24 : t.length ≤ 24
          · have : (t.length : Int) ≤ 24 := by omega
            simp [WordIs, wordS, hL, ← htt, hk, wdCells, h24, this]
          · have : ¬ (t.length : Int) ≤ 24 := by omega
            simp [WordIs, wordS, hL, ← htt, hk, wdCells, h24, this]
        · intro j x hj
          simp [hj, old j x hj]
    | false =>
      simp
      refine does_use (contains1 digitsL c _) ?_
      rintro _ _ ⟨rfl, rfl⟩
      rw [digits_eq]
      cases hD : isDigit c with
      | true =>
        simp
        refine does_use (while_does (c :: q) digitsL isDigit digits_eq (by decide) (by decide) (by decide) hl _) ?_
        rintro _ _ ⟨rfl, rfl⟩
        have ht := take_takeWhile isDigit (c :: q)
        have hle : ((c :: q).takeWhile isDigit).length ≤ (c :: q).length := (List.takeWhile_prefix isDigit).length_le
        have hall : ∀ b ∈ (c :: q).takeWhile isDigit, isDigit b = true := fun b hb => List.all_eq_true.1 (List.all_takeWhile) b hb
        have hcons : (c :: q).takeWhile isDigit = c :: q.takeWhile isDigit := by rw [List.takeWhile_cons, if_pos hD]
        obtain ⟨t, htt⟩ : ∃ t, t = (c :: q).takeWhile isDigit := ⟨_, rfl⟩
        rw [← htt] at ht hle hall hcons ⊢
        simp only [List.length_cons] at hle hl
        have hle' : (t.length : Int) ≤ q.length + 1 := by omega
        simp [hle, hle', ht]
        refine does_use (number_does t hall (by rw [hcons]; simp) (by omega) hG _) ?_
        rintro _ _ ⟨rfl, rfl⟩
        simp
        refine ⟨?_, ?_⟩
        · have hh : t.head? = some c := by rw [hcons]; rfl
          unfold WordIs wordS numOk numN
          simp only [hL, hD, ← htt, hh]
          by_cases g1 : numVal t < 9223372036854775808
          · by_cases g2 : t.length = 1 ∨ c ≠ 48
            · rcases g2 with g2 | g2 <;> simp [g1, g2, wdCells]
            · simp only [not_or] at g2
              simp [g1, g2.1, Decidable.not_not.1 g2.2]
          · simp [g1]
        · intro j x hj
          simp [hj, old j x hj]
      | false =>
        simp
        refine does_use (sign_does (c :: q) _) ?_
        rintro r _ ⟨hr, rfl⟩
        cases hs : signOf (c :: q) with
        | some t =>
          rw [hs] at hr
          simp only at hr
          subst hr
          simp
          refine ⟨?_, ?_⟩
          · simp [WordIs, wordS, hL, hD, hs, wdCells]
          · intro j x hj
            simp [hj, old j x hj]
        | none =>
          rw [hs] at hr
          simp only at hr
          subst hr
          simp
          refine ⟨?_, ?_⟩
          · simp [WordIs, wordS, hL, hD, hs, wdCells]
          · intro j x hj
            simp [hj, old j x hj]
  · rintro hw ha r H1 ⟨hr, h⟩
    refine ⟨h, ?_, hr, rfl⟩
    unfold WordIs at hr
    split at hr
    · subst hr; rfl
    · obtain ⟨k, t, n, rfl⟩ := hr; rfl
end Go.Proofs.YtjopfgmnlibgjaaDoor

/-
  Words: a text cut.
-/


namespace Go.Proofs.YtjopfgmnlibgjaaDoor
open Go Go.Abs Go.Lex
set_option linter.unusedSimpArgs false
variable {G : Nat → Option AV}

def flatW : List (Nat × Wd) → List AV
  | [] => []
  | (i, w) :: l => wdCells w i ++ flatW l
theorem flatW_append (a b : List (Nat × Wd)) : flatW (a ++ b) = flatW a ++ flatW b := by
  induction a with
  | nil => rfl
  | cons x a ih => obtain ⟨i, w⟩ := x; simp [flatW, ih]
@[simp] theorem wdCells_length (w : Wd) (i : Nat) : (wdCells w i).length = 4 := rfl
@[simp] theorem flatW_length (l : List (Nat × Wd)) : (flatW l).length = l.length * 4 := by
  induction l with
  | nil => rfl
  | cons x l ih => obtain ⟨i, w⟩ := x; simp [flatW, ih]; omega
theorem flatW_scalar (l : List (Nat × Wd)) : ∀ x ∈ flatW l, x.scalar = true := by
  induction l with
  | nil => simp [flatW]
  | cons y l ih =>
    obtain ⟨i, w⟩ := y
    intro x hx
    simp only [flatW, wdCells, List.cons_append, List.nil_append, List.mem_cons] at hx
    rcases hx with rfl | rfl | rfl | rfl | hx
    · rfl
    · rfl
    · rfl
    · rfl
    · exact ih x hx

/-- Cut's answer. -/
def cutAns (t : Bs) : AV := if 16384 < t.length then .tuple [.nilsl, .agg [.int .i64 2, .int .i64 t.length]] else match cutS t.length t with
  | .ok l => .tuple [.vsl (flatW l ++ [.int .i64 0, .str [], .int .i64 0, .int .i64 t.length]) (l.length + 1), .agg [.int .i64 0, .int .i64 0]]
  | .error e => .tuple [.nilsl, .agg [.int .i64 7, .int .i64 e]]

/-- The words so far: where they lie. -/
def Wrds (H : AHeap) (lo : Nat) (x : AV) (ws : List (Nat × Wd)) : Prop := (x = .nilsl ∧ ws = []) ∨ ∃ b, x = .sl b 0 4 ws.length ws.length true ∧ lo ≤ b ∧ H.get b = some (.cells (flatW ws))

def CutR (H : AHeap) (t : Bs) (r : AV) (H1 : AHeap) : Prop := (∀ j x, H.get j = some x → H1.get j = some x) ∧
  (if 16384 < t.length then r = .tuple [.nilsl, .agg [.int .i64 2, .int .i64 t.length]] else match cutS t.length t with
  | .ok l => ∃ b, H.next ≤ b ∧ r = .tuple [.sl b 0 4 (l.length + 1) (l.length + 1) true, .agg [.int .i64 0, .int .i64 0]] ∧ H1.get b = some (.cells (flatW l ++ [.int .i64 0, .str [], .int .i64 0, .int .i64 t.length]))
  | .error e => r = .tuple [.nilsl, .agg [.int .i64 7, .int .i64 e]])

theorem CutR.okEnd {H : AHeap} {t : Bs} {ws : List (Nat × Wd)} {H2 : AHeap} {b : Nat} (hL : ¬ 16384 < t.length) (hc : cutS t.length t = .ok ws) (hb : H.next ≤ b)
    (hg : H2.get b = some (.cells (flatW ws ++ [.int .i64 0, .str [], .int .i64 0, .int .i64 t.length]))) (hk : ∀ j x, H.get j = some x → H2.get j = some x) :
    CutR H t (.tuple [.sl b 0 4 (ws.length + 1) (ws.length + 1) true, .agg [.int .i64 0, .int .i64 0]]) H2 := by
  refine ⟨hk, ?_⟩
  rw [if_neg hL, hc]
  exact ⟨b, hb, rfl, hg⟩
theorem CutR.badEnd {H : AHeap} {t : Bs} {e : Nat} {H2 : AHeap} (hL : ¬ 16384 < t.length) (hc : cutS t.length t = .error e) (hk : ∀ j x, H.get j = some x → H2.get j = some x) :
    CutR H t (.tuple [.nilsl, .agg [.int .i64 7, .int .i64 e]]) H2 := by
  refine ⟨hk, ?_⟩
  rw [if_neg hL, hc]

set_option maxRecDepth 100000 in
theorem cut_live (t : Bs) (hG : HasErr G) (H : AHeap) (hbig : t.length < 9223372036854775808) : Does Tryd.prog G 8 [.str t] H (CutR H t) := by
  refine Does.wf Tryd.call8 fun hw _ => ?_
  have old : ∀ j x, H.get j = some x → j < H.next := fun j x hj => next_lt hw hj
  refine does_f Tryd.call8 Tryd.func8 rfl (by simp [Tryd.f8]) ?_
  by_cases hL : 16384 < t.length
  · have hL' : (16384 : Int) < t.length := by omega
    simp [hL']
    refine ⟨fun j x hj => ?_, by simp [hL]⟩
    have := old j x hj
    have h1 : j ≠ H.next := by omega
    simp [hj, h1]
  · have hL' : ¬ (16384 : Int) < t.length := by omega
    simp [hL']
    refine does_use (between_does t (by omega) _) ?_
    rintro _ _ ⟨⟨n, rfl, hn, hbn⟩, rfl⟩
    simp
    refine aws_loopw (fun m T' H' => ∃ (ws : List (Nat × Wd)) (rest : Bs) (n : Nat), cutS t.length t = aheadW ws (cutS t.length rest) ∧ n ≤ t.length ∧ t.drop n = betw rest ∧ m = t.length - n ∧ ws.length ≤ n ∧
      T' 0 = .str t ∧ T' 3 = .ptr H.next 0 ∧ T' 5 = .int .i64 n ∧ Wrds H' (H.next + 1) (T' 4) ws ∧ H'.get H.next = some (.cells [.int .i64 0, .int .i64 0]) ∧ (∀ j x, H.get j = some x → H'.get j = some x)) (t.length - n) ?_ ?_
    · refine ⟨[], t, n, ?_, hn, hbn, rfl, by simp, by simp, by simp, by simp, .inl ⟨by simp, rfl⟩, by simp, fun j x hj => ?_⟩
      · cases cutS t.length t <;> rfl
      · have := old j x hj
        have h1 : j ≠ H.next := by omega
        simp [hj, h1]
    rintro m T H1 ⟨ws, rest, n, hcut, hn, hbn, rfl, hws, h0, h3, h5, h4, hf, hkeep⟩ hw1 _
    have oldn : ∀ j x, H1.get j = some x → j < H1.next := fun j x hj => next_lt hw1 hj
    have hfn := oldn _ _ hf
    have hne : H.next ≠ H1.next := by omega
    have hne2 : H.next ≠ H1.next + 1 := by omega
    have hne3 : H.next ≠ H1.next + 1 + 1 := by omega
    have hgrow : ¬ (ws.length + 1 ≤ ws.length) := by omega
    have hws' : ws.length ≤ 16384 := by omega
    by_cases hend : n = t.length
    · subst hend
      have hnil : betw rest = [] := by rw [← hbn]; simp
      have hc : cutS t.length t = .ok ws := by rw [hcut, cutS_end hnil]; simp [aheadW]
      have hfin : ∀ j x, H.get j = some x → H1.get j = some x ∧ j ≠ H.next ∧ j ≠ H1.next ∧ j ≠ H1.next + 1 := fun j x hj => by
        have := old j x hj
        have := oldn j x (hkeep j x hj)
        exact ⟨hkeep j x hj, by omega, by omega, by omega⟩
      rcases h4 with ⟨h4, rfl⟩ | ⟨b, h4, hlo, hb⟩
      · simp [h0, h3, h4, h5, hf, hne, hne2, hne3]
        refine CutR.okEnd hL hc (by omega) (by simp [flatW, Ne.symm hne2]) fun j x hj => ?_
        obtain ⟨k1, k2, k3, k4⟩ := hfin j x hj
        simp [k1, k2, k3, k4]
      · have hbn' := oldn _ _ hb
        have hb1 : b ≠ H1.next := by omega
        have hb2 : H.next ≠ b := by omega
        have hl1 : (ws.length + 1) * 40 ≤ 140737488355328 := by omega
        have hl2 : ws.length ≤ 4611686018427387903 := by omega
        simp [h0, h3, h4, h5, hf, hne, hne2, hne3, hb, hb1, hb2, hgrow, hl1, hl2]
        have htk : List.take (ws.length * 4) (flatW ws) = flatW ws := by rw [List.take_of_length_le]; simp
        rw [htk]
        refine CutR.okEnd hL hc (by omega) (by simp [Ne.symm hne2]) fun j x hj => ?_
        obtain ⟨k1, k2, k3, k4⟩ := hfin j x hj
        have := old j x hj
        have k5 : j ≠ b := by omega
        simp [k1, k2, k3, k4, k5]
    · have hlt : (n : Int) < t.length := by omega
      have hn' : (n : Int) ≤ t.length := by omega
      obtain ⟨c, q, hcq⟩ : ∃ c q, t.drop n = c :: q := by
        cases h : t.drop n with
        | nil => rw [List.drop_eq_nil_iff] at h; omega
        | cons c q => exact ⟨c, q, rfl⟩
      have hlen : (c :: q).length = t.length - n := by rw [← hcq]; simp
      rw [hcq] at hbn
      have htk0 : List.take (t.length - n) (c :: q) = c :: q := by rw [List.take_of_length_le]; omega
      simp [h0, h3, h4, h5, hf, hlt, hn, hn', hcq, htk0]
      refine does_use (word_does c q (by omega) hG _) ?_
      rintro r H2 ⟨hr, e⟩
      subst e
      have hkeep2 : ∀ j x, H.get j = some x → H2.get j = some x ∧ j ≠ H.next ∧ j ≠ H2.next ∧ j ≠ H2.next + 1 ∧ j ≠ H2.next + 1 + 1 := fun j x hj => by
        have := old j x hj
        have := oldn j x (hkeep j x hj)
        exact ⟨hkeep j x hj, by omega, by omega, by omega, by omega⟩
      unfold WordIs at hr
      cases hwd : wordS (c :: q) with
      | none =>
        rw [hwd] at hr
        simp only at hr
        obtain ⟨k, tx, nn, rfl⟩ := hr
        have hc : cutS t.length t = .error n := by
          rw [hcut, cutS_bad hbn.symm hwd, hlen]
          simp only [aheadW]
          congr 1
          omega
        simp [h0, h3, h4, h5, hf, hne]
        refine CutR.badEnd hL hc fun j x hj => ?_
        obtain ⟨k1, k2, k3, k4, k5⟩ := hkeep2 j x hj
        simp [k1, k2, k3]
      | some w =>
        rw [hwd] at hr
        simp only at hr
        subst hr
        obtain ⟨hpre, htne⟩ := wordS_text hwd
        have hwl : w.text.length ≤ (c :: q).length := hpre.length_le
        have hwl0 : w.text.length ≠ 0 := by simpa using htne
        rw [hlen] at hwl
        have hw1 : IntKind.i64.wrap ((n : Int) + w.text.length) = ((n + w.text.length : Nat) : Int) := by rw [IntWalk.i64_in _ (by omega)]; omega
        have hn2 : ((n + w.text.length : Nat) : Int) ≤ t.length := by omega
        have hn3 : n + w.text.length ≤ t.length := by omega
        have hrest : t.drop (n + w.text.length) = (c :: q).drop w.text.length := by rw [← List.drop_drop, hcq]
        obtain ⟨n2, hn2'⟩ : ∃ n2, n2 = n + w.text.length := ⟨_, rfl⟩
        rw [← hn2'] at hw1 hn2 hn3 hrest
        have hcut2 : cutS t.length t = aheadW (ws ++ [(n, w)]) (cutS t.length (t.drop n2)) := by
          rw [hcut, cutS_word hbn.symm hwd, hrest, hlen]
          have e : t.length - (t.length - n) = n := by omega
          rw [e]
          cases cutS t.length ((c :: q).drop w.text.length) <;> simp [aheadW]
        rcases h4 with ⟨h4, rfl⟩ | ⟨b, h4, hlo, hb⟩
        · simp [h0, h3, h4, h5, hf, hne, hne2, hne3, wdCells, hw1, hn2, hn3]
          refine does_use (between_does (t.drop n2) (by simp; omega) _) ?_
          rintro _ _ ⟨⟨k, rfl, hk, hk2⟩, rfl⟩
          simp only [List.length_drop] at hk
          have hw2 : IntKind.i64.wrap ((n2 : Int) + k) = ((n2 + k : Nat) : Int) := by rw [IntWalk.i64_in _ (by omega)]; omega
          simp [h0, h3, h4, h5, hf, hne, hne2, hne3, hw2]
          refine ⟨t.length - (n2 + k), by omega, [(n, w)], t.drop n2, by simpa using hcut2, n2 + k, by omega, by rw [← List.drop_drop]; exact hk2, rfl, by simp; omega, by omega, .inr ⟨H2.next + 1 + 1, rfl, by omega, by simp [flatW, wdCells]⟩, fun j x hj => ?_⟩
          obtain ⟨k1, k2, k3, k4, k5⟩ := hkeep2 j x hj
          simp [k1, k3, k4, k5]
        · have hbn' := oldn _ _ hb
          have hb1 : b ≠ H2.next := by omega
          have hb2 : H.next ≠ b := by omega
          have hb3 : b ≠ H2.next + 1 := by omega
          have hl1 : (ws.length + 1) * 40 ≤ 140737488355328 := by omega
          have hl2 : ws.length ≤ 4611686018427387903 := by omega
          have hb4 : H2.next ≠ b := Ne.symm hb1
          have hb5 : H2.next ≠ H2.next + 1 + 1 := by omega
          have htk : List.take (ws.length * 4) (flatW ws) = flatW ws := by rw [List.take_of_length_le]; simp
          simp [h0, h3, h4, h5, hf, hne, hne2, hne3, wdCells, hw1, hn2, hn3, hb, hb1, hb2, hb3, hb4, hb5, hgrow, hl1, hl2, htk]
          refine does_use (between_does (t.drop n2) (by simp; omega) _) ?_
          rintro _ _ ⟨⟨k, rfl, hk, hk2⟩, rfl⟩
          simp only [List.length_drop] at hk
          have hw2 : IntKind.i64.wrap ((n2 : Int) + k) = ((n2 + k : Nat) : Int) := by rw [IntWalk.i64_in _ (by omega)]; omega
          simp [h0, h3, h4, h5, hf, hne, hne2, hne3, hw2]
          refine ⟨t.length - (n2 + k), by omega, ws ++ [(n, w)], t.drop n2, hcut2, n2 + k, by omega, by rw [← List.drop_drop]; exact hk2, rfl, by simp; omega, by omega, .inr ⟨H2.next + 1 + 1, by simp, by omega, by simp [flatW_append, flatW, wdCells]⟩, hb2, fun j x hj => ?_⟩
          obtain ⟨k1, k2, k3, k4, k5⟩ := hkeep2 j x hj
          have := old j x hj
          have k6 : j ≠ b := by omega
          simp [k1, k3, k4, k5, k6]

theorem flatW_lt (n : Nat) : ∀ l : List (Nat × Wd), AV.allLt n (flatW l) = true
  | [] => rfl
  | (i, w) :: l => by simp [flatW, wdCells, AV.allLt, AV.idLt, flatW_lt n l]
theorem allLt_app (n : Nat) (a b : List AV) : AV.allLt n (a ++ b) = (AV.allLt n a && AV.allLt n b) := AV.allLt_append a b
theorem frzs_flatW (i : Nat) (cs : List AV) : ∀ l : List (Nat × Wd), AV.frzs i cs (flatW l) = flatW l
  | [] => rfl
  | (j, w) :: l => by simp [flatW, wdCells, AV.frzs, AV.frz, frzs_flatW i cs l]

/-- Cut, its answer frozen. -/
theorem cut_does (t : Bs) (hG : HasErr G) (H : AHeap) (hbig : t.length < 9223372036854775808) : Does Tryd.prog G 8 [.str t] H fun r H' => r = cutAns t ∧ H' = H := by
  by_cases hL : 16384 < t.length
  · refine Does.forgot (cut_live t hG H hbig) ?_
    rintro hw ha r H1 ⟨hk, hr⟩
    rw [if_pos hL] at hr
    subst hr
    exact ⟨hk, rfl, by simp [cutAns, hL], rfl⟩
  · cases hc : cutS t.length t with
    | error e =>
      refine Does.forgot (cut_live t hG H hbig) ?_
      rintro hw ha r H1 ⟨hk, hr⟩
      rw [if_neg hL, hc] at hr
      simp only at hr
      subst hr
      exact ⟨hk, rfl, by simp [cutAns, hL, hc], rfl⟩
    | ok l =>
      refine Does.frozen (cut_live t hG H hbig) ?_
      rintro hw ha r H1 ⟨hk, hr⟩
      rw [if_neg hL, hc] at hr
      obtain ⟨b, hb, rfl, hg⟩ := hr
      refine ⟨b, _, hb, hg, hk, ?_, ?_, rfl⟩
      · simp [AV.frz, AV.frzs, AV.idLt, AV.allLt]
        rw [List.take_of_length_le (by simp; omega)]
        simp [allLt_app, flatW_lt, AV.allLt, AV.idLt]
      · simp [AV.frz, AV.frzs, cutAns, hL, hc]
        rw [List.take_of_length_le (by simp; omega)]
end Go.Proofs.YtjopfgmnlibgjaaDoor

/-
  What the statements on words ask first of all (awake).
-/


namespace Go.Proofs.YtjopfgmnlibgjaaDoor
open Go Go.Abs Go.Lex
set_option linter.unusedSimpArgs false
variable {G : Nat → Option AV}

def tA : Bs := [120, 32, 61, 32, 49, 32, 45, 62, 32, 121, 59]
theorem cutA : cutAns tA = .tuple [.vsl [.int .i64 1, .str [120], .int .i64 0, .int .i64 0, .int .i64 4, .str [61], .int .i64 0, .int .i64 2, .int .i64 3, .str [49], .int .i64 1, .int .i64 4, .int .i64 4, .str [45, 62], .int .i64 0, .int .i64 6, .int .i64 1, .str [121], .int .i64 0, .int .i64 9, .int .i64 4, .str [59], .int .i64 0, .int .i64 10, .int .i64 0, .str [], .int .i64 0, .int .i64 11] 7, .agg [.int .i64 0, .int .i64 0]] := by
  unfold cutAns
  rw [← cutF_eq tA.length 20 tA (by decide)]
  kernel_rfl
def tB : Bs := [32, 64]
theorem cutB : cutAns tB = .tuple [.nilsl, .agg [.int .i64 7, .int .i64 1]] := by
  unfold cutAns
  rw [← cutF_eq tB.length 20 tB (by decide)]
  kernel_rfl

set_option maxRecDepth 100000 in
theorem awake_does (hG : HasErr G) (H : AHeap) : Does Tryd.prog G 7 [] H fun r H' => r = .bool true ∧ H' = H := by
  refine Does.forgot (R := fun r H' => r = .bool true ∧ ∀ j x, H.get j = some x → H'.get j = some x) ?_ ?_
  · refine Does.wf Tryd.call7 fun hw _ => ?_
    have old : ∀ j x, H.get j = some x → j ≠ H.next ∧ j ≠ H.next + 1 := fun j x hj => by have := next_lt hw hj; omega
    refine does_f Tryd.call7 Tryd.func7 rfl (by simp [Tryd.f7]) ?_
    simp
    refine does_use (cut_does tA hG H (by decide)) ?_
    rintro _ _ ⟨rfl, rfl⟩
    rw [cutA]
    simp
    refine does_use (cut_does tB hG _ (by decide)) ?_
    rintro _ _ ⟨rfl, rfl⟩
    rw [cutB]
    simp
    refine does_use (kept_does [102, 98, 121] _) ?_
    rintro _ _ ⟨rfl, rfl⟩
    have k1 : kept [102, 98, 121] = true := by decide
    have k2 : kept [120] = false := by decide
    rw [k1]
    simp
    refine does_use (kept_does [120] _) ?_
    rintro _ _ ⟨rfl, rfl⟩
    rw [k2]
    simp
    intro j x hj
    simp [hj, old j x hj]
  · rintro hw ha r H1 ⟨rfl, h⟩
    exact ⟨h, rfl, rfl, rfl⟩
end Go.Proofs.YtjopfgmnlibgjaaDoor

/-
  The library's error value is there; strings as arguments.
-/



namespace Go.Proofs.YtjopfgmnlibgjaaDoor
open Go Go.Abs Go.Lex

def isErrCell : Option AV → Bool
  | some (.vptr [.iface _ _]) => true
  | _ => false
theorem errCell : isErrCell (Gof tab 2) = true := by kernel_rfl
theorem hasErr : HasErr (Gof tab) := by
  have h := errCell
  unfold isErrCell at h
  split at h
  · rename_i t v he; exact ⟨t, v, he⟩
  · simp at h

set_option maxRecDepth 100000 in
theorem shp_str' {n : Nat} {a : AV} (h : Shp Tryd.prog (n + 1) 9 [a]) : ∃ s, a = .str s ∧ s.length ≤ maxLen := by
  simp only [Shp, Tryd.underlying9] at h
  obtain ⟨s, h, hl⟩ := h
  simp only [List.cons.injEq, and_true] at h
  exact ⟨s, h, hl⟩
set_option maxRecDepth 100000 in
theorem shp_str {a : AV} (h : Shp Tryd.prog 8 9 [a]) : ∃ s, a = .str s ∧ s.length ≤ maxLen := shp_str' (n := 7) h
end Go.Proofs.YtjopfgmnlibgjaaDoor

/-
  LexBetween: words written one behind the other with blanks, lines, remarks between are cut the same.
-/



namespace Go.Proofs.YtjopfgmnlibgjaaDoor
open Go Go.Abs Go.Lex
set_option linter.unusedSimpArgs false
variable {G : Nat → Option AV}

theorem joinW_append (sep : Bs) : ∀ a b : List Wd, joinW sep (a ++ b) = joinW sep a ++ joinW sep b
  | [], b => rfl
  | w :: a, b => by simp [joinW, joinW_append sep a b]

theorem joinW_length (sep : Bs) : ∀ a : List Wd, (joinW sep a).length = (a.map fun w => w.text.length).sum + a.length * sep.length
  | [] => by simp [joinW]
  | w :: a => by
    simp only [joinW, List.length_append, joinW_length sep a, List.map_cons, List.sum_cons, List.length_cons, Nat.succ_mul]
    omega

theorem flatW_drop : ∀ (L : List (Nat × Wd)) (i : Nat) (p : Nat) (w : Wd), L[i]? = some (p, w) → (flatW L).drop (i * 4) = wdCells w p ++ flatW (L.drop (i + 1))
  | [], i, p, w, h => by simp at h
  | (a, b) :: L, 0, p, w, h => by
    simp only [List.getElem?_cons_zero, Option.some.injEq, Prod.mk.injEq] at h
    obtain ⟨rfl, rfl⟩ := h
    simp [flatW]
  | (a, b) :: L, i + 1, p, w, h => by
    have := flatW_drop L i p w (by simpa using h)
    rw [Nat.succ_mul]
    simp only [flatW, List.drop_succ_cons]
    rw [← this, Nat.add_comm (i * 4) 4, ← List.drop_drop]
    rw [List.drop_left' (by simp)]

theorem cutAns_cases (t : Bs) (ht : t.length ≤ 16384) : (∃ e : Nat, cutAns t = .tuple [.nilsl, .agg [.int .i64 7, .int .i64 e]] ∧ cutS t.length t = .error e) ∨ ∃ l, cutS t.length t = .ok l ∧ cutAns t = .tuple [.vsl (flatW (l ++ [(t.length, ⟨0, [], 0⟩)])) (l.length + 1), .agg [.int .i64 0, .int .i64 0]] := by
  unfold cutAns
  rw [if_neg (by omega)]
  cases h : cutS t.length t with
  | error e => exact .inl ⟨e, rfl, rfl⟩
  | ok l => exact .inr ⟨l, rfl, by simp [flatW_append, flatW, wdCells]⟩

theorem count_words : ∀ (l : List (Nat × Wd)), (∀ w ∈ l, Wok w.2) → l.length ≤ (l.map fun w => w.2.text.length).sum
  | [], _ => by simp
  | w :: l, h => by
    have h1 := count_words l fun x hx => h x (by simp [hx])
    have h2 : w.2.text.length ≠ 0 := by
      obtain ⟨s, hs⟩ := h w (by simp)
      simpa using (wordS_text hs).2
    simp only [List.length_cons, List.map_cons, List.sum_cons]
    omega

theorem join_take (sep : Bs) (W : List Wd) (i : Nat) (w : Wd) (h : W[i]? = some w) : (joinW sep (W.take i)).length + w.text.length + sep.length ≤ (joinW sep W).length ∧ i < W.length ∧ joinW sep (W.take (i + 1)) = joinW sep (W.take i) ++ w.text ++ sep := by
  have hi : i < W.length := by
    rcases Nat.lt_or_ge i W.length with g | g
    · exact g
    · rw [List.getElem?_eq_none g] at h; simp at h
  have e1 : W.take (i + 1) = W.take i ++ [w] := by
    rw [List.take_add_one, h]; rfl
  have e2 : joinW sep (W.take (i + 1)) = joinW sep (W.take i) ++ w.text ++ sep := by
    rw [e1, joinW_append]; simp [joinW]
  refine ⟨?_, hi, e2⟩
  have e3 : joinW sep W = joinW sep (W.take (i + 1)) ++ joinW sep (W.drop (i + 1)) := by
    rw [← joinW_append, List.take_append_drop]
  rw [e3, e2]
  simp only [List.length_append]
  omega

set_option maxRecDepth 100000 in
theorem between_run (hG : HasErr G) (H : AHeap) (t : Bs) (k : Int) : Does Tryd.prog G 4 [.str t, .int .i64 k] H fun r _ => r = .bool true := by
  refine does_f Tryd.call4 Tryd.func4 rfl (by simp [Tryd.f4]) ?_
  simp
  refine does_use (awake_does hG H) ?_
  rintro _ _ ⟨rfl, rfl⟩
  by_cases h1 : 800 < t.length
  · have h1' : (800 : Int) < t.length := by omega
    simp [h1']
  · have h1' : ¬ (800 : Int) < t.length := by omega
    simp [h1']
    refine does_use (cut_does t hG _ (by omega)) ?_
    rintro _ _ ⟨rfl, rfl⟩
    rcases cutAns_cases t (by omega) with ⟨e, hans, _⟩ | ⟨l, hcut, hans⟩
    · rw [hans]
      simp
    · obtain ⟨w1, w2, w3⟩ := cut_words (t.length + 1) t (by omega) l hcut
      rw [hans]
      obtain ⟨L, hL⟩ : ∃ L, L = l ++ [(t.length, (⟨0, [], 0⟩ : Wd))] := ⟨_, rfl⟩
      have hLl : L.length = l.length + 1 := by rw [hL]; simp
      rw [← hL, ← hLl]
      simp
      obtain ⟨j, hj4, hj⟩ : ∃ j : Nat, j < 4 ∧ IntKind.i64.wrap ↑((k % 2 ^ IntKind.i64.bits).toNat &&& 3 % 2 ^ IntKind.i64.bits) = j := by
        have h := Nat.lt_of_le_of_lt (Nat.and_le_right (n := (k % 2 ^ IntKind.i64.bits).toNat) (m := 3 % 2 ^ IntKind.i64.bits)) (show 3 % 2 ^ IntKind.i64.bits < 4 by decide)
        exact ⟨_, h, IntWalk.i64_in _ (by omega)⟩
      rw [hj]
      clear hj
      have hsum : ∀ sep : Bs, (joinW sep (L.map (·.2))).length ≤ 800 + 801 * sep.length := fun sep => by
        rw [joinW_length, hL]
        simp only [List.map_append, List.map_map, List.sum_append, List.length_append, List.length_map, List.map_cons, List.map_nil, List.sum_cons, List.sum_nil, List.length_singleton, List.length_cons, List.length_nil]
        have e : (l.map ((fun w : Wd => w.text.length) ∘ fun x => x.2)).sum = (l.map fun w => w.2.text.length).sum := rfl
        have e2 : l.length + 1 ≤ 801 := by
          have := count_words l w1
          omega
        have := Nat.mul_le_mul_right sep.length e2
        simp only [Nat.zero_add] at *
        omega
      have inv : ∃ sep, Sep sep ∧ sep.length ≤ 9 ∧ (j = 0 ∧ sep = [32] ∨ j = 1 ∧ sep = [9, 13, 10] ∨ j = 2 ∧ sep = [32, 45, 45, 32, 116, 104, 101, 110, 10] ∨ j = 3 ∧ sep = [10, 10]) := by
        obtain rfl | rfl | rfl | rfl : j = 0 ∨ j = 1 ∨ j = 2 ∨ j = 3 := by omega
        · exact ⟨_, sep1, by decide, .inl ⟨rfl, rfl⟩⟩
        · exact ⟨_, sep2, by decide, .inr (.inl ⟨rfl, rfl⟩)⟩
        · exact ⟨_, sep3, by decide, .inr (.inr (.inl ⟨rfl, rfl⟩))⟩
        · exact ⟨_, sep4, by decide, .inr (.inr (.inr ⟨rfl, rfl⟩))⟩
      obtain ⟨sep, hs, hs9, hsep⟩ := inv
      have hsm := hsum sep
      have hLL : L.length ≤ 801 := by have := count_words l w1; omega
      rcases hsep with ⟨rfl, hse⟩ | ⟨rfl, hse⟩ | ⟨rfl, hse⟩ | ⟨rfl, hse⟩ <;>
        (simp [← hse]
         refine aws_loop (fun m T' H' => ∃ i, m = L.length - i ∧ i ≤ L.length ∧ T' 5 = .vsl (flatW L) L.length ∧ T' 7 = .str sep ∧ T' 8 = .str (joinW sep ((L.map (·.2)).take i)) ∧ T' 9 = .int .i64 i) L.length ⟨0, by omega, by omega, by simp, by simp, by simp [joinW], by simp⟩ ?_
         clear hse)
      all_goals
        rintro m T H1 ⟨i, rfl, hi, t5, t7, t8, t9⟩
        by_cases hlt : i < L.length
        · have g1 : (i : Int) < L.length := by omega
          obtain ⟨⟨p, w⟩, hw⟩ : ∃ x, L[i]? = some x := ⟨_, List.getElem?_eq_getElem hlt⟩
          have hdr := flatW_drop L i p w hw
          have g2 : IntKind.i64.wrap ((i : Int) + 1) = i + 1 := IntWalk.i64_in _ (by omega)
          obtain ⟨u1, u2, u3⟩ := join_take sep (L.map (·.2)) i w (by simp [hw])
          have v1 : (joinW sep (List.take i (List.map (fun x => x.snd) L))).length + w.text.length ≤ 9223372036854775807 := by omega
          have v2 : (joinW sep (List.take i (List.map (fun x => x.snd) L))).length + w.text.length + sep.length ≤ 9223372036854775807 := by omega
          have v3 : (joinW sep (List.take i (List.map (fun x => x.snd) L))).length + (w.text.length + sep.length) ≤ 9223372036854775807 := by omega
          simp [t5, t7, t8, t9, g1, g2, hdr, wdCells, v1, v2, v3]
          exact ⟨L.length - (i + 1), by omega, i + 1, rfl, by omega, by rw [u3]; simp, rfl⟩
        · obtain rfl : i = L.length := by omega
          have hall : (L.map (·.2)).take L.length = L.map (·.2) := by rw [List.take_of_length_le]; simp
          rw [hall] at t8
          simp [t5, t7, t8, t9]
          obtain ⟨l', hc', hm⟩ := cut_join hs (joinW sep (L.map (·.2))).length (l.map (·.2)) (fun w hw => by
            obtain ⟨x, hx, rfl⟩ := List.mem_map.1 hw
            exact w1 x hx) sep (by
              obtain ⟨_, _, _, _, hx⟩ := hs
              have := hx []
              rw [List.append_nil] at this
              rw [this, betw_nil'])
          have hJ : joinW sep (L.map (·.2)) = joinW sep (l.map (·.2)) ++ sep := by
            rw [hL, List.map_append, joinW_append]; simp [joinW]
          rw [← hJ] at hc'
          have hans2 : cutAns (joinW sep (L.map (·.2))) = .tuple [.vsl (flatW (l' ++ [((joinW sep (L.map (·.2))).length, ⟨0, [], 0⟩)])) (l'.length + 1), .agg [.int .i64 0, .int .i64 0]] := by
            rcases cutAns_cases (joinW sep (L.map (·.2))) (by omega) with ⟨e, _, h⟩ | ⟨l2, h, h2⟩
            · rw [hc'] at h; simp at h
            · rw [hc'] at h; simp only [Except.ok.injEq] at h; subst h; exact h2
          obtain ⟨M, hM⟩ : ∃ M, M = l' ++ [((joinW sep (L.map (·.2))).length, (⟨0, [], 0⟩ : Wd))] := ⟨_, rfl⟩
          have hMl : M.length = l'.length + 1 := by rw [hM]; simp
          have hll : l'.length = l.length := by have := congrArg List.length hm; simpa using this
          have hML : M.length = L.length := by omega
          have hMm : M.map (·.2) = L.map (·.2) := by rw [hM, hL, List.map_append, List.map_append, hm]; rfl
          rw [← hM, ← hMl, hML] at hans2
          refine does_use (cut_does _ hG _ (by omega)) ?_
          rintro _ _ ⟨rfl, rfl⟩
          rw [hans2]
          simp [t5]
          refine aws_loop (fun m T' H' => ∃ i, m = L.length - i ∧ i ≤ L.length ∧ T' 5 = .vsl (flatW L) L.length ∧ T' 10 = .vsl (flatW M) L.length ∧ T' 12 = .int .i64 i) L.length ⟨0, by omega, by omega, by simp [t5], by simp, by simp⟩ ?_
          rintro m T2 H2 ⟨i, rfl, hi, r5, r10, r12⟩
          by_cases hlt : i < L.length
          · have g1 : (i : Int) < L.length := by omega
            obtain ⟨⟨p, w⟩, hw⟩ : ∃ x, L[i]? = some x := ⟨_, List.getElem?_eq_getElem hlt⟩
            obtain ⟨⟨p', w'⟩, hw'⟩ : ∃ x, M[i]? = some x := ⟨_, List.getElem?_eq_getElem (by omega)⟩
            have hww : w' = w := by
              have h1 : (M.map (·.2))[i]? = some w' := by simp [hw']
              have h2 : (L.map (·.2))[i]? = some w := by simp [hw]
              rw [hMm, h2] at h1
              simpa using h1.symm
            subst hww
            have hdr := flatW_drop L i p w' hw
            have hdr2 := flatW_drop M i p' w' hw'
            have g2 : IntKind.i64.wrap ((i : Int) + 1) = i + 1 := IntWalk.i64_in _ (by omega)
            simp [r5, r10, r12, g1]
            refine aw_drawn [(4, 0), (9, 0), (16, 0), (21, 0), (29, 0), (34, 0)] mixedOrders (by kernel_rfl) ?_
            intro es hes
            simp [r5, r10, r12, g1, hdr, hdr2, wdCells, rds, heapF]
            refine ⟨?_, ?_⟩
            · subst hes
              exact ⟨by kernel_rfl, by kernel_rfl⟩
            exact ⟨L.length - (i + 1), by omega, i + 1, rfl, by omega, g2⟩
          · obtain rfl : i = L.length := by omega
            simp [r5, r10, r12]
end Go.Proofs.YtjopfgmnlibgjaaDoor

/-
  LexBetween, at whatever string and number.
-/

namespace Go.Proofs.YtjopfgmnlibgjaaDoor
open Go Go.Abs Go.Lex
set_option maxRecDepth 100000 in
theorem shp_int' {a : AV} (h : Shp Tryd.prog 8 3 [a]) : ∃ n : Int, a = .int .i64 n := by
  simp only [Shp, Tryd.underlying3] at h
  obtain ⟨m, h, hl⟩ := h
  simp only [List.cons.injEq, and_true] at h
  exact ⟨m, h⟩
set_option maxRecDepth 100000 in
theorem between_law (H : AHeap) (a b : AV) (ha : Shp Tryd.prog 8 9 [a]) (hb : Shp Tryd.prog 8 3 [b]) : Does Tryd.prog (Gof tab) 4 [a, b] H fun r _ => r = .bool true := by
  obtain ⟨s, rfl, _⟩ := shp_str ha
  obtain ⟨k, rfl⟩ := shp_int' hb
  exact between_run hasErr H s k
end Go.Proofs.YtjopfgmnlibgjaaDoor
