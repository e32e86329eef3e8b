/-
  Own library of this claim, part 4: texts one behind the other (LxW7, LxW8, LxA, LxN, LxE, LxNL).
-/
import Derived.Test.YtjopfgmnlibgjaaDoorLibLexNamesC

/-
  Words: the word that a text begins with.
-/

namespace Go.Proofs.YtjopfgmnlibgjaaDoor
open Go Go.Abs Go.Lex
set_option linter.unusedSimpArgs false
variable {G : Nat → Option AV}

def lettersL : Bs := [97,98,99,100,101,102,103,104,105,106,107,108,109,110,111,112,113,114,115,116,117,118,119,120,121,122]
def digitsL : Bs := [48,49,50,51,52,53,54,55,56,57]
def namesL : Bs := [97,98,99,100,101,102,103,104,105,106,107,108,109,110,111,112,113,114,115,116,117,118,119,120,121,122,48,49,50,51,52,53,54,55,56,57,95]

theorem byAll (p q : UInt8 → Bool) (h : ∀ n : Fin 256, p (UInt8.ofNat n.val) = q (UInt8.ofNat n.val)) (b : UInt8) : p b = q b := by
  have := h ⟨b.toNat, b.toNat_lt⟩
  simpa using this
theorem letters_eq (b : UInt8) : lettersL.contains b = isLetter b := byAll _ _ (by decide +kernel) b
theorem digits_eq (b : UInt8) : digitsL.contains b = isDigit b := byAll _ _ (by decide +kernel) b
theorem names_eq (b : UInt8) : namesL.contains b = isNamec b := byAll _ _ (by decide +kernel) b

theorem take_takeWhile (p : UInt8 → Bool) (s : Bs) : s.take (s.takeWhile p).length = s.takeWhile p := by
  have := List.takeWhile_prefix p (l := s)
  rw [List.prefix_iff_eq_take] at this
  exact this.symm

/-- A word's cells. -/
def wdCells (w : Wd) (i : Nat) : List AV := [.int .i64 w.kind, .str w.text, .int .i64 w.n, .int .i64 i]

def WordIs (s : Bs) (r : AV) : Prop := match wordS s with
  | some w => r = .tuple [.agg (wdCells w 0), .bool true]
  | none => ∃ k t n, r = .tuple [.agg [.int .i64 k, .str t, .int .i64 n, .int .i64 0], .bool false]

set_option maxRecDepth 100000 in
theorem word_does (c : UInt8) (q : Bs) (hl : (c :: q).length ≤ 1000000) (hG : HasErr G) (H : AHeap) : Does Tryd.prog G 15 [.str (c :: q)] H fun r H' => WordIs (c :: q) r ∧ H' = H := by
  refine Does.forgot (R := fun r H' => WordIs (c :: q) r ∧ ∀ j x, H.get j = some x → H'.get j = some x) ?_ ?_
  · refine Does.wf Tryd.call15 fun hw _ => ?_
    have old : ∀ j x, H.get j = some x → j ≠ H.next ∧ j ≠ H.next + 1 := fun j x hj => by have := next_lt hw hj; omega
    refine does_f Tryd.call15 Tryd.func15 rfl (by simp [Tryd.f15]) ?_
    have m1 : (1 : Int) ≤ q.length + 1 := by omega
    simp [m1]
    refine does_use (contains1 lettersL c _) ?_
    rintro _ _ ⟨rfl, rfl⟩
    rw [letters_eq]
    cases hL : isLetter c with
    | true =>
      simp
      refine does_use (while_does (c :: q) namesL isNamec names_eq (by decide) (by decide) (by decide) hl _) ?_
      rintro _ _ ⟨rfl, rfl⟩
      have ht := take_takeWhile isNamec (c :: q)
      have hle : ((c :: q).takeWhile isNamec).length ≤ (c :: q).length := (List.takeWhile_prefix isNamec).length_le
      obtain ⟨t, htt⟩ : ∃ t, t = (c :: q).takeWhile isNamec := ⟨_, rfl⟩
      rw [← htt] at ht hle ⊢
      simp only [List.length_cons] at hle
      have hle' : (t.length : Int) ≤ q.length + 1 := by omega
      simp [hle, hle', ht]
      refine does_use (kept_does t _) ?_
      rintro _ _ ⟨rfl, rfl⟩
      cases hk : kept t with
      | true =>
        simp
        refine ⟨?_, ?_⟩
        · simp [WordIs, wordS, hL, ← htt, hk, wdCells]
        · intro j x hj
          simp [hj, old j x hj]
      | false =>
        simp
        refine ⟨?_, ?_⟩
        · by_cases h24 : t.length ≤ 24
          · have : (t.length : Int) ≤ 24 := by omega
            simp [WordIs, wordS, hL, ← htt, hk, wdCells, h24, this]
          · have : ¬ (t.length : Int) ≤ 24 := by omega
            simp [WordIs, wordS, hL, ← htt, hk, wdCells, h24, this]
        · intro j x hj
          simp [hj, old j x hj]
    | false =>
      simp
      refine does_use (contains1 digitsL c _) ?_
      rintro _ _ ⟨rfl, rfl⟩
      rw [digits_eq]
      cases hD : isDigit c with
      | true =>
        simp
        refine does_use (while_does (c :: q) digitsL isDigit digits_eq (by decide) (by decide) (by decide) hl _) ?_
        rintro _ _ ⟨rfl, rfl⟩
        have ht := take_takeWhile isDigit (c :: q)
        have hle : ((c :: q).takeWhile isDigit).length ≤ (c :: q).length := (List.takeWhile_prefix isDigit).length_le
        have hall : ∀ b ∈ (c :: q).takeWhile isDigit, isDigit b = true := fun b hb => List.all_eq_true.1 (List.all_takeWhile) b hb
        have hcons : (c :: q).takeWhile isDigit = c :: q.takeWhile isDigit := by rw [List.takeWhile_cons, if_pos hD]
        obtain ⟨t, htt⟩ : ∃ t, t = (c :: q).takeWhile isDigit := ⟨_, rfl⟩
        rw [← htt] at ht hle hall hcons ⊢
        simp only [List.length_cons] at hle hl
        have hle' : (t.length : Int) ≤ q.length + 1 := by omega
        simp [hle, hle', ht]
        refine does_use (number_does t hall (by rw [hcons]; simp) (by omega) hG _) ?_
        rintro _ _ ⟨rfl, rfl⟩
        simp
        refine ⟨?_, ?_⟩
        · have hh : t.head? = some c := by rw [hcons]; rfl
          unfold WordIs wordS numOk numN
          simp only [hL, hD, ← htt, hh]
          by_cases g1 : numVal t < 9223372036854775808
          · by_cases g2 : t.length = 1 ∨ c ≠ 48
            · rcases g2 with g2 | g2 <;> simp [g1, g2, wdCells]
            · simp only [not_or] at g2
              simp [g1, g2.1, Decidable.not_not.1 g2.2]
          · simp [g1]
        · intro j x hj
          simp [hj, old j x hj]
      | false =>
        simp
        refine does_use (sign_does (c :: q) _) ?_
        rintro r _ ⟨hr, rfl⟩
        cases hs : signOf (c :: q) with
        | some t =>
          rw [hs] at hr
          simp only at hr
          subst hr
          simp
          refine ⟨?_, ?_⟩
          · simp [WordIs, wordS, hL, hD, hs, wdCells]
          · intro j x hj
            simp [hj, old j x hj]
        | none =>
          rw [hs] at hr
          simp only at hr
          subst hr
          simp
          refine ⟨?_, ?_⟩
          · simp [WordIs, wordS, hL, hD, hs, wdCells]
          · intro j x hj
            simp [hj, old j x hj]
  · rintro hw ha r H1 ⟨hr, h⟩
    refine ⟨h, ?_, hr, rfl⟩
    unfold WordIs at hr
    split at hr
    · subst hr; rfl
    · obtain ⟨k, t, n, rfl⟩ := hr; rfl
end Go.Proofs.YtjopfgmnlibgjaaDoor

/-
  Words: a text cut.
-/


namespace Go.Proofs.YtjopfgmnlibgjaaDoor
open Go Go.Abs Go.Lex
set_option linter.unusedSimpArgs false
variable {G : Nat → Option AV}

def flatW : List (Nat × Wd) → List AV
  | [] => []
  | (i, w) :: l => wdCells w i ++ flatW l
theorem flatW_append (a b : List (Nat × Wd)) : flatW (a ++ b) = flatW a ++ flatW b := by
  induction a with
  | nil => rfl
  | cons x a ih => obtain ⟨i, w⟩ := x; simp [flatW, ih]
@[simp] theorem wdCells_length (w : Wd) (i : Nat) : (wdCells w i).length = 4 := rfl
@[simp] theorem flatW_length (l : List (Nat × Wd)) : (flatW l).length = l.length * 4 := by
  induction l with
  | nil => rfl
  | cons x l ih => obtain ⟨i, w⟩ := x; simp [flatW, ih]; omega
theorem flatW_scalar (l : List (Nat × Wd)) : ∀ x ∈ flatW l, x.scalar = true := by
  induction l with
  | nil => simp [flatW]
  | cons y l ih =>
    obtain ⟨i, w⟩ := y
    intro x hx
    simp only [flatW, wdCells, List.cons_append, List.nil_append, List.mem_cons] at hx
    rcases hx with rfl | rfl | rfl | rfl | hx
    · rfl
    · rfl
    · rfl
    · rfl
    · exact ih x hx

/-- Cut's answer. -/
def cutAns (t : Bs) : AV := if 16384 < t.length then .tuple [.nilsl, .agg [.int .i64 2, .int .i64 t.length]] else match cutS t.length t with
  | .ok l => .tuple [.vsl (flatW l ++ [.int .i64 0, .str [], .int .i64 0, .int .i64 t.length]) (l.length + 1), .agg [.int .i64 0, .int .i64 0]]
  | .error e => .tuple [.nilsl, .agg [.int .i64 7, .int .i64 e]]

/-- The words so far: where they lie. -/
def Wrds (H : AHeap) (lo : Nat) (x : AV) (ws : List (Nat × Wd)) : Prop := (x = .nilsl ∧ ws = []) ∨ ∃ b, x = .sl b 0 4 ws.length ws.length true ∧ lo ≤ b ∧ H.get b = some (.cells (flatW ws))

def CutR (H : AHeap) (t : Bs) (r : AV) (H1 : AHeap) : Prop := (∀ j x, H.get j = some x → H1.get j = some x) ∧
  (if 16384 < t.length then r = .tuple [.nilsl, .agg [.int .i64 2, .int .i64 t.length]] else match cutS t.length t with
  | .ok l => ∃ b, H.next ≤ b ∧ r = .tuple [.sl b 0 4 (l.length + 1) (l.length + 1) true, .agg [.int .i64 0, .int .i64 0]] ∧ H1.get b = some (.cells (flatW l ++ [.int .i64 0, .str [], .int .i64 0, .int .i64 t.length]))
  | .error e => r = .tuple [.nilsl, .agg [.int .i64 7, .int .i64 e]])

theorem CutR.okEnd {H : AHeap} {t : Bs} {ws : List (Nat × Wd)} {H2 : AHeap} {b : Nat} (hL : ¬ 16384 < t.length) (hc : cutS t.length t = .ok ws) (hb : H.next ≤ b)
    (hg : H2.get b = some (.cells (flatW ws ++ [.int .i64 0, .str [], .int .i64 0, .int .i64 t.length]))) (hk : ∀ j x, H.get j = some x → H2.get j = some x) :
    CutR H t (.tuple [.sl b 0 4 (ws.length + 1) (ws.length + 1) true, .agg [.int .i64 0, .int .i64 0]]) H2 := by
  refine ⟨hk, ?_⟩
  rw [if_neg hL, hc]
  exact ⟨b, hb, rfl, hg⟩
theorem CutR.badEnd {H : AHeap} {t : Bs} {e : Nat} {H2 : AHeap} (hL : ¬ 16384 < t.length) (hc : cutS t.length t = .error e) (hk : ∀ j x, H.get j = some x → H2.get j = some x) :
    CutR H t (.tuple [.nilsl, .agg [.int .i64 7, .int .i64 e]]) H2 := by
  refine ⟨hk, ?_⟩
  rw [if_neg hL, hc]

set_option maxRecDepth 100000 in
theorem cut_live (t : Bs) (hG : HasErr G) (H : AHeap) (hbig : t.length < 9223372036854775808) : Does Tryd.prog G 8 [.str t] H (CutR H t) := by
  refine Does.wf Tryd.call8 fun hw _ => ?_
  have old : ∀ j x, H.get j = some x → j < H.next := fun j x hj => next_lt hw hj
  refine does_f Tryd.call8 Tryd.func8 rfl (by simp [Tryd.f8]) ?_
  by_cases hL : 16384 < t.length
  · have hL' : (16384 : Int) < t.length := by omega
    simp [hL']
    refine ⟨fun j x hj => ?_, by simp [hL]⟩
    have := old j x hj
    have h1 : j ≠ H.next := by omega
    simp [hj, h1]
  · have hL' : ¬ (16384 : Int) < t.length := by omega
    simp [hL']
    refine does_use (between_does t (by omega) _) ?_
    rintro _ _ ⟨⟨n, rfl, hn, hbn⟩, rfl⟩
    simp
    refine aws_loopw (fun m T' H' => ∃ (ws : List (Nat × Wd)) (rest : Bs) (n : Nat), cutS t.length t = aheadW ws (cutS t.length rest) ∧ n ≤ t.length ∧ t.drop n = betw rest ∧ m = t.length - n ∧ ws.length ≤ n ∧
      T' 0 = .str t ∧ T' 3 = .ptr H.next 0 ∧ T' 5 = .int .i64 n ∧ Wrds H' (H.next + 1) (T' 4) ws ∧ H'.get H.next = some (.cells [.int .i64 0, .int .i64 0]) ∧ (∀ j x, H.get j = some x → H'.get j = some x)) (t.length - n) ?_ ?_
    · refine ⟨[], t, n, ?_, hn, hbn, rfl, by simp, by simp, by simp, by simp, .inl ⟨by simp, rfl⟩, by simp, fun j x hj => ?_⟩
      · cases cutS t.length t <;> rfl
      · have := old j x hj
        have h1 : j ≠ H.next := by omega
        simp [hj, h1]
    rintro m T H1 ⟨ws, rest, n, hcut, hn, hbn, rfl, hws, h0, h3, h5, h4, hf, hkeep⟩ hw1 _
    have oldn : ∀ j x, H1.get j = some x → j < H1.next := fun j x hj => next_lt hw1 hj
    have hfn := oldn _ _ hf
    have hne : H.next ≠ H1.next := by omega
    have hne2 : H.next ≠ H1.next + 1 := by omega
    have hne3 : H.next ≠ H1.next + 1 + 1 := by omega
    have hgrow : ¬ (ws.length + 1 ≤ ws.length) := by omega
    have hws' : ws.length ≤ 16384 := by omega
    by_cases hend : n = t.length
    · subst hend
      have hnil : betw rest = [] := by rw [← hbn]; simp
      have hc : cutS t.length t = .ok ws := by rw [hcut, cutS_end hnil]; simp [aheadW]
      have hfin : ∀ j x, H.get j = some x → H1.get j = some x ∧ j ≠ H.next ∧ j ≠ H1.next ∧ j ≠ H1.next + 1 := fun j x hj => by
        have := old j x hj
        have := oldn j x (hkeep j x hj)
        exact ⟨hkeep j x hj, by omega, by omega, by omega⟩
      rcases h4 with ⟨h4, rfl⟩ | ⟨b, h4, hlo, hb⟩
      · simp [h0, h3, h4, h5, hf, hne, hne2, hne3]
        refine CutR.okEnd hL hc (by omega) (by simp [flatW, Ne.symm hne2]) fun j x hj => ?_
        obtain ⟨k1, k2, k3, k4⟩ := hfin j x hj
        simp [k1, k2, k3, k4]
      · have hbn' := oldn _ _ hb
        have hb1 : b ≠ H1.next := by omega
        have hb2 : H.next ≠ b := by omega
        have hl1 : (ws.length + 1) * 40 ≤ 140737488355328 := by omega
        have hl2 : ws.length ≤ 4611686018427387903 := by omega
        simp [h0, h3, h4, h5, hf, hne, hne2, hne3, hb, hb1, hb2, hgrow, hl1, hl2]
        have htk : List.take (ws.length * 4) (flatW ws) = flatW ws := by rw [List.take_of_length_le]; simp
        rw [htk]
        refine CutR.okEnd hL hc (by omega) (by simp [Ne.symm hne2]) fun j x hj => ?_
        obtain ⟨k1, k2, k3, k4⟩ := hfin j x hj
        have := old j x hj
        have k5 : j ≠ b := by omega
        simp [k1, k2, k3, k4, k5]
    · have hlt : (n : Int) < t.length := by omega
      have hn' : (n : Int) ≤ t.length := by omega
      obtain ⟨c, q, hcq⟩ : ∃ c q, t.drop n = c :: q := by
        cases h : t.drop n with
        | nil => rw [List.drop_eq_nil_iff] at h; omega
        | cons c q => exact ⟨c, q, rfl⟩
      have hlen : (c :: q).length = t.length - n := by rw [← hcq]; simp
      rw [hcq] at hbn
      have htk0 : List.take (t.length - n) (c :: q) = c :: q := by rw [List.take_of_length_le]; omega
      simp [h0, h3, h4, h5, hf, hlt, hn, hn', hcq, htk0]
      refine does_use (word_does c q (by omega) hG _) ?_
      rintro r H2 ⟨hr, e⟩
      subst e
      have hkeep2 : ∀ j x, H.get j = some x → H2.get j = some x ∧ j ≠ H.next ∧ j ≠ H2.next ∧ j ≠ H2.next + 1 ∧ j ≠ H2.next + 1 + 1 := fun j x hj => by
        have := old j x hj
        have := oldn j x (hkeep j x hj)
        exact ⟨hkeep j x hj, by omega, by omega, by omega, by omega⟩
      unfold WordIs at hr
      cases hwd : wordS (c :: q) with
      | none =>
        rw [hwd] at hr
        simp only at hr
        obtain ⟨k, tx, nn, rfl⟩ := hr
        have hc : cutS t.length t = .error n := by
          rw [hcut, cutS_bad hbn.symm hwd, hlen]
          simp only [aheadW]
          congr 1
          omega
        simp [h0, h3, h4, h5, hf, hne]
        refine CutR.badEnd hL hc fun j x hj => ?_
        obtain ⟨k1, k2, k3, k4, k5⟩ := hkeep2 j x hj
        simp [k1, k2, k3]
      | some w =>
        rw [hwd] at hr
        simp only at hr
        subst hr
        obtain ⟨hpre, htne⟩ := wordS_text hwd
        have hwl : w.text.length ≤ (c :: q).length := hpre.length_le
        have hwl0 : w.text.length ≠ 0 := by simpa using htne
        rw [hlen] at hwl
        have hw1 : IntKind.i64.wrap ((n : Int) + w.text.length) = ((n + w.text.length : Nat) : Int) := by rw [IntWalk.i64_in _ (by omega)]; omega
        have hn2 : ((n + w.text.length : Nat) : Int) ≤ t.length := by omega
        have hn3 : n + w.text.length ≤ t.length := by omega
        have hrest : t.drop (n + w.text.length) = (c :: q).drop w.text.length := by rw [← List.drop_drop, hcq]
        obtain ⟨n2, hn2'⟩ : ∃ n2, n2 = n + w.text.length := ⟨_, rfl⟩
        rw [← hn2'] at hw1 hn2 hn3 hrest
        have hcut2 : cutS t.length t = aheadW (ws ++ [(n, w)]) (cutS t.length (t.drop n2)) := by
          rw [hcut, cutS_word hbn.symm hwd, hrest, hlen]
          have e : t.length - (t.length - n) = n := by omega
          rw [e]
          cases cutS t.length ((c :: q).drop w.text.length) <;> simp [aheadW]
        rcases h4 with ⟨h4, rfl⟩ | ⟨b, h4, hlo, hb⟩
        · simp [h0, h3, h4, h5, hf, hne, hne2, hne3, wdCells, hw1, hn2, hn3]
          refine does_use (between_does (t.drop n2) (by simp; omega) _) ?_
          rintro _ _ ⟨⟨k, rfl, hk, hk2⟩, rfl⟩
          simp only [List.length_drop] at hk
          have hw2 : IntKind.i64.wrap ((n2 : Int) + k) = ((n2 + k : Nat) : Int) := by rw [IntWalk.i64_in _ (by omega)]; omega
          simp [h0, h3, h4, h5, hf, hne, hne2, hne3, hw2]
          refine ⟨t.length - (n2 + k), by omega, [(n, w)], t.drop n2, by simpa using hcut2, n2 + k, by omega, by rw [← List.drop_drop]; exact hk2, rfl, by simp; omega, by omega, .inr ⟨H2.next + 1 + 1, rfl, by omega, by simp [flatW, wdCells]⟩, fun j x hj => ?_⟩
          obtain ⟨k1, k2, k3, k4, k5⟩ := hkeep2 j x hj
          simp [k1, k3, k4, k5]
        · have hbn' := oldn _ _ hb
          have hb1 : b ≠ H2.next := by omega
          have hb2 : H.next ≠ b := by omega
          have hb3 : b ≠ H2.next + 1 := by omega
          have hl1 : (ws.length + 1) * 40 ≤ 140737488355328 := by omega
          have hl2 : ws.length ≤ 4611686018427387903 := by omega
          have hb4 : H2.next ≠ b := Ne.symm hb1
          have hb5 : H2.next ≠ H2.next + 1 + 1 := by omega
          have htk : List.take (ws.length * 4) (flatW ws) = flatW ws := by rw [List.take_of_length_le]; simp
          simp [h0, h3, h4, h5, hf, hne, hne2, hne3, wdCells, hw1, hn2, hn3, hb, hb1, hb2, hb3, hb4, hb5, hgrow, hl1, hl2, htk]
          refine does_use (between_does (t.drop n2) (by simp; omega) _) ?_
          rintro _ _ ⟨⟨k, rfl, hk, hk2⟩, rfl⟩
          simp only [List.length_drop] at hk
          have hw2 : IntKind.i64.wrap ((n2 : Int) + k) = ((n2 + k : Nat) : Int) := by rw [IntWalk.i64_in _ (by omega)]; omega
          simp [h0, h3, h4, h5, hf, hne, hne2, hne3, hw2]
          refine ⟨t.length - (n2 + k), by omega, ws ++ [(n, w)], t.drop n2, hcut2, n2 + k, by omega, by rw [← List.drop_drop]; exact hk2, rfl, by simp; omega, by omega, .inr ⟨H2.next + 1 + 1, by simp, by omega, by simp [flatW_append, flatW, wdCells]⟩, hb2, fun j x hj => ?_⟩
          obtain ⟨k1, k2, k3, k4, k5⟩ := hkeep2 j x hj
          have := old j x hj
          have k6 : j ≠ b := by omega
          simp [k1, k3, k4, k5, k6]

theorem flatW_lt (n : Nat) : ∀ l : List (Nat × Wd), AV.allLt n (flatW l) = true
  | [] => rfl
  | (i, w) :: l => by simp [flatW, wdCells, AV.allLt, AV.idLt, flatW_lt n l]
theorem allLt_app (n : Nat) (a b : List AV) : AV.allLt n (a ++ b) = (AV.allLt n a && AV.allLt n b) := AV.allLt_append a b
theorem frzs_flatW (i : Nat) (cs : List AV) : ∀ l : List (Nat × Wd), AV.frzs i cs (flatW l) = flatW l
  | [] => rfl
  | (j, w) :: l => by simp [flatW, wdCells, AV.frzs, AV.frz, frzs_flatW i cs l]

/-- Cut, its answer frozen. -/
theorem cut_does (t : Bs) (hG : HasErr G) (H : AHeap) (hbig : t.length < 9223372036854775808) : Does Tryd.prog G 8 [.str t] H fun r H' => r = cutAns t ∧ H' = H := by
  by_cases hL : 16384 < t.length
  · refine Does.forgot (cut_live t hG H hbig) ?_
    rintro hw ha r H1 ⟨hk, hr⟩
    rw [if_pos hL] at hr
    subst hr
    exact ⟨hk, rfl, by simp [cutAns, hL], rfl⟩
  · cases hc : cutS t.length t with
    | error e =>
      refine Does.forgot (cut_live t hG H hbig) ?_
      rintro hw ha r H1 ⟨hk, hr⟩
      rw [if_neg hL, hc] at hr
      simp only at hr
      subst hr
      exact ⟨hk, rfl, by simp [cutAns, hL, hc], rfl⟩
    | ok l =>
      refine Does.frozen (cut_live t hG H hbig) ?_
      rintro hw ha r H1 ⟨hk, hr⟩
      rw [if_neg hL, hc] at hr
      obtain ⟨b, hb, rfl, hg⟩ := hr
      refine ⟨b, _, hb, hg, hk, ?_, ?_, rfl⟩
      · simp [AV.frz, AV.frzs, AV.idLt, AV.allLt]
        rw [List.take_of_length_le (by simp; omega)]
        simp [allLt_app, flatW_lt, AV.allLt, AV.idLt]
      · simp [AV.frz, AV.frzs, cutAns, hL, hc]
        rw [List.take_of_length_le (by simp; omega)]
end Go.Proofs.YtjopfgmnlibgjaaDoor

/-
  What the statements on words ask first of all (awake).
-/


namespace Go.Proofs.YtjopfgmnlibgjaaDoor
open Go Go.Abs Go.Lex
set_option linter.unusedSimpArgs false
variable {G : Nat → Option AV}

def tA : Bs := [120, 32, 61, 32, 49, 32, 45, 62, 32, 121, 59]
theorem cutA : cutAns tA = .tuple [.vsl [.int .i64 1, .str [120], .int .i64 0, .int .i64 0, .int .i64 4, .str [61], .int .i64 0, .int .i64 2, .int .i64 3, .str [49], .int .i64 1, .int .i64 4, .int .i64 4, .str [45, 62], .int .i64 0, .int .i64 6, .int .i64 1, .str [121], .int .i64 0, .int .i64 9, .int .i64 4, .str [59], .int .i64 0, .int .i64 10, .int .i64 0, .str [], .int .i64 0, .int .i64 11] 7, .agg [.int .i64 0, .int .i64 0]] := by
  unfold cutAns
  rw [← cutF_eq tA.length 20 tA (by decide)]
  kernel_rfl
def tB : Bs := [32, 64]
theorem cutB : cutAns tB = .tuple [.nilsl, .agg [.int .i64 7, .int .i64 1]] := by
  unfold cutAns
  rw [← cutF_eq tB.length 20 tB (by decide)]
  kernel_rfl

set_option maxRecDepth 100000 in
theorem awake_does (hG : HasErr G) (H : AHeap) : Does Tryd.prog G 7 [] H fun r H' => r = .bool true ∧ H' = H := by
  refine Does.forgot (R := fun r H' => r = .bool true ∧ ∀ j x, H.get j = some x → H'.get j = some x) ?_ ?_
  · refine Does.wf Tryd.call7 fun hw _ => ?_
    have old : ∀ j x, H.get j = some x → j ≠ H.next ∧ j ≠ H.next + 1 := fun j x hj => by have := next_lt hw hj; omega
    refine does_f Tryd.call7 Tryd.func7 rfl (by simp [Tryd.f7]) ?_
    simp
    refine does_use (cut_does tA hG H (by decide)) ?_
    rintro _ _ ⟨rfl, rfl⟩
    rw [cutA]
    simp
    refine does_use (cut_does tB hG _ (by decide)) ?_
    rintro _ _ ⟨rfl, rfl⟩
    rw [cutB]
    simp
    refine does_use (kept_does [102, 98, 121] _) ?_
    rintro _ _ ⟨rfl, rfl⟩
    have k1 : kept [102, 98, 121] = true := by decide
    have k2 : kept [120] = false := by decide
    rw [k1]
    simp
    refine does_use (kept_does [120] _) ?_
    rintro _ _ ⟨rfl, rfl⟩
    rw [k2]
    simp
    intro j x hj
    simp [hj, old j x hj]
  · rintro hw ha r H1 ⟨rfl, h⟩
    exact ⟨h, rfl, rfl, rfl⟩
end Go.Proofs.YtjopfgmnlibgjaaDoor

/-
  LexNames: a kept name is kept alone as it is, not with a letter, a digit, a stroke more.
-/

namespace Go.Proofs.YtjopfgmnlibgjaaDoor
open Go Go.Abs Go.Lex
set_option linter.unusedSimpArgs false
variable {G : Nat → Option AV}

theorem kept_no (s : Bs) (h : kept s = true) : 95 ∉ s ∧ 49 ∉ s := by
  have hm : s ∈ keptWords := by simpa [kept] using h
  have : ∀ w ∈ keptWords, 95 ∉ w ∧ 49 ∉ w := by decide
  exact this s hm

theorem letter_namec {b : UInt8} (h : isLetter b = true) : isNamec b = true := by simp [isNamec, h]
theorem letter_notBlank {b : UInt8} (h : isLetter b = true) : isBlank b = false := by
  simp only [isLetter, Bool.and_eq_true, decide_eq_true_eq] at h
  have : ∀ n : Fin 256, 97 ≤ (UInt8.ofNat n.val).toNat → isBlank (UInt8.ofNat n.val) = false := by decide +kernel
  have h2 := this ⟨b.toNat, b.toNat_lt⟩ (by simpa using h.1)
  simpa using h2

theorem takeWhile_stop (p : UInt8 → Bool) : ∀ (a : Bs) (c : UInt8) (r : Bs), (∀ b ∈ a, p b = true) → p c = false → (a ++ c :: r).takeWhile p = a
  | [], c, r, _, hc => by simp [List.takeWhile_cons, hc]
  | b :: a, c, r, ha, hc => by
    rw [List.cons_append, List.takeWhile_cons, if_pos (ha b (by simp)), takeWhile_stop p a c r (fun x hx => ha x (by simp [hx])) hc]
theorem takeWhile_all (p : UInt8 → Bool) : ∀ (a : Bs), (∀ b ∈ a, p b = true) → a.takeWhile p = a
  | [], _ => rfl
  | b :: a, ha => by rw [List.takeWhile_cons, if_pos (ha b (by simp)), takeWhile_all p a fun x hx => ha x (by simp [hx])]

/-- A name's word. -/
def nameWd (t : Bs) : Wd := ⟨if kept t then 2 else 1, t, 0⟩

theorem word_name {c : UInt8} {q t r : Bs} (hc : isLetter c = true) (ht : (c :: q).takeWhile isNamec = t) (hl : t.length ≤ 24) (_ : c :: q = t ++ r) : wordS (c :: q) = some (nameWd t) := by
  simp only [wordS, hc, if_true, ht, nameWd]
  cases kept t <;> simp [hl]

theorem betw_letter {c : UInt8} {q : Bs} (hc : isLetter c = true) : betw (c :: q) = c :: q := by
  refine betw_here (letter_notBlank hc) fun r h => ?_
  simp only [List.cons.injEq] at h
  rw [h.1] at hc
  exact absurd hc (by decide)

/-- One name, cut. -/
theorem cut_name {n : Nat} {c : UInt8} {q t r : Bs} (hc : isLetter c = true) (ht : (c :: q).takeWhile isNamec = t) (hl : t.length ≤ 24) (hr : c :: q = t ++ r) :
    cutS n (c :: q) = match cutS n r with
      | .ok l => .ok ((n - (c :: q).length, nameWd t) :: l)
      | .error e => .error e := by
  rw [cutS_word (betw_letter hc) (word_name hc ht hl hr)]
  have : (c :: q).drop (nameWd t).text.length = r := by rw [hr]; exact List.drop_left' rfl
  rw [this]
  cases cutS n r <;> rfl
theorem cut_space {n : Nat} {s : Bs} : cutS n (32 :: s) = cutS n s := cutS_congr (betw_blank (by decide))

theorem names_cut (c : UInt8) (q : Bs) (h : ∀ b ∈ c :: q, isLetter b = true) (hl : (c :: q).length ≤ 10) (n : Nat) :
    ∃ i j k, cutS n ((c :: q) ++ [32] ++ (c :: q) ++ [95, 32] ++ (c :: q) ++ [49]) = .ok [(i, nameWd (c :: q)), (j, nameWd ((c :: q) ++ [95])), (k, nameWd ((c :: q) ++ [49]))] := by
  have hc := h c (by simp)
  have hn : ∀ b ∈ c :: q, isNamec b = true := fun b hb => letter_namec (h b hb)
  have s32 : isNamec 32 = false := by decide
  have s95 : isNamec 95 = true := by decide
  have s49 : isNamec 49 = true := by decide
  have e1 : (c :: q) ++ [32] ++ (c :: q) ++ [95, 32] ++ (c :: q) ++ [49] = c :: (q ++ 32 :: ((c :: q) ++ 95 :: 32 :: ((c :: q) ++ [49]))) := by simp
  have t1 : (c :: (q ++ 32 :: ((c :: q) ++ 95 :: 32 :: ((c :: q) ++ [49])))).takeWhile isNamec = c :: q := takeWhile_stop isNamec (c :: q) 32 _ hn s32
  have t2 : (c :: (q ++ 95 :: 32 :: ((c :: q) ++ [49]))).takeWhile isNamec = (c :: q) ++ [95] := by
    have := takeWhile_stop isNamec ((c :: q) ++ [95]) 32 ((c :: q) ++ [49]) (fun b hb => by
      simp only [List.mem_append, List.mem_singleton] at hb
      rcases hb with hb | rfl
      · exact hn b hb
      · exact s95) s32
    simpa using this
  have t3 : (c :: (q ++ [49])).takeWhile isNamec = (c :: q) ++ [49] := takeWhile_all isNamec _ (fun b hb => by
      have hb : b ∈ (c :: q) ++ [49] := by simpa using hb
      simp only [List.mem_append, List.mem_singleton] at hb
      rcases hb with hb | rfl
      · exact hn b hb
      · exact s49)
  rw [e1, cut_name hc t1 (by omega) (r := 32 :: ((c :: q) ++ 95 :: 32 :: ((c :: q) ++ [49]))) (by simp), cut_space]
  rw [List.cons_append, cut_name hc t2 (by simp at hl ⊢; omega) (r := 32 :: ((c :: q) ++ [49])) (by simp), cut_space]
  rw [List.cons_append, cut_name hc t3 (by simp at hl ⊢; omega) (r := []) (by simp), cutS_end betw_nil']
  exact ⟨_, _, _, rfl⟩

set_option maxRecDepth 100000 in
theorem names_run (hG : HasErr G) (H : AHeap) (s : Bs) : Does Tryd.prog G 6 [.str s] H fun r _ => r = .bool true := by
  refine does_f Tryd.call6 Tryd.func6 rfl (by simp [Tryd.f6]) ?_
  simp
  refine does_use (awake_does hG H) ?_
  rintro _ _ ⟨rfl, rfl⟩
  by_cases h1 : s.length < 1
  · have h1' : (s.length : Int) < 1 := by omega
    simp [h1']
  · have h1' : ¬ (s.length : Int) < 1 := by omega
    by_cases h2 : 10 < s.length
    · have h2' : (10 : Int) < s.length := by omega
      simp [h1', h2']
    · have h2' : ¬ (10 : Int) < s.length := by omega
      simp [h1', h2']
      refine aws_loop (fun m T' H' => ∃ a b, s = a ++ b ∧ m = b.length ∧ (∀ x ∈ a, isLetter x = true) ∧ T' 0 = .str s ∧ T' 3 = .int .i64 a.length) s.length ⟨[], s, rfl, rfl, by simp, by simp⟩ ?_
      rintro m T H1 ⟨a, b, rfl, rfl, ha, h0, h3⟩
      simp only [List.length_append] at h1 h2
      cases b with
      | nil =>
        obtain ⟨c, q, rfl⟩ : ∃ c q, a = c :: q := by
          cases a with
          | nil => simp at h1
          | cons c q => exact ⟨c, q, rfl⟩
        simp only [List.append_nil] at h0
        simp [h0, h3]
        refine does_use (kept_does (c :: q) _) ?_
        rintro _ _ ⟨rfl, rfl⟩
        have hl : (c :: q).length ≤ 10 := by simpa using h2
        have hbig : ((c :: q) ++ [32] ++ (c :: q) ++ [95, 32] ++ (c :: q) ++ [49]).length ≤ 16384 := by simp at hl ⊢; omega
        have k95 : kept ((c :: q) ++ [95]) = false := by
          cases hk : kept ((c :: q) ++ [95]) with
          | false => rfl
          | true => exact absurd (kept_no _ hk).1 (by simp)
        have k49 : kept ((c :: q) ++ [49]) = false := by
          cases hk : kept ((c :: q) ++ [49]) with
          | false => rfl
          | true => exact absurd (kept_no _ hk).2 (by simp)
        obtain ⟨i, j, k, hcut⟩ := names_cut c q ha hl ((c :: q) ++ [32] ++ (c :: q) ++ [95, 32] ++ (c :: q) ++ [49]).length
        have hans : cutAns ((c :: q) ++ [32] ++ (c :: q) ++ [95, 32] ++ (c :: q) ++ [49]) = .tuple [.vsl (flatW [(i, nameWd (c :: q)), (j, nameWd ((c :: q) ++ [95])), (k, nameWd ((c :: q) ++ [49]))] ++ [.int .i64 0, .str [], .int .i64 0, .int .i64 ((c :: q) ++ [32] ++ (c :: q) ++ [95, 32] ++ (c :: q) ++ [49]).length]) 4, .agg [.int .i64 0, .int .i64 0]] := by
          unfold cutAns
          rw [if_neg (by omega), hcut]
          rfl
        have hcd := fun H => cut_does ((c :: q) ++ [32] ++ (c :: q) ++ [95, 32] ++ (c :: q) ++ [49]) hG H (by omega)
        rw [hans] at hcd
        simp only [flatW, wdCells, nameWd, k95, k49] at hcd
        have hq9 : q.length ≤ 9 := by simpa using hl
        have L1 : ∀ k, 9 ≤ k → (q.length ≤ k) = True := fun k hk => by simp; omega
        have L2 : ∀ a k, 9 + a ≤ k → (q.length + a ≤ k) = True := fun a k hk => by simp; omega
        have L3 : ∀ a k, 18 + a ≤ k → (q.length + (q.length + a) ≤ k) = True := fun a k hk => by simp; omega
        have L4 : ∀ a k, 27 + a ≤ k → (q.length + (q.length + (q.length + a)) ≤ k) = True := fun a k hk => by simp; omega
        have f1 : q.length + 1 + 1 + (q.length + 1) ≤ 9223372036854775807 := by omega
        have f2 : q.length + (q.length + 1 + 1) ≤ 9223372036854775804 := by omega
        have f3 : q.length + (q.length + 1 + 1 + 1 + 1) + 1 + (q.length + 1) ≤ 9223372036854775807 := by omega
        have f4 : q.length + (q.length + (q.length + 1 + 1 + 1) + 1 + 1) ≤ 9223372036854775805 := by omega
        cases hk : kept (c :: q) with
        | true =>
          rw [hk] at hcd
          simp [h0, h3, f1, f2, f3, f4, L1, L2, L3, L4]
          refine does_use (by simpa using hcd _) ?_
          rintro _ _ ⟨rfl, rfl⟩
          simp [h0, L1]
          refine does_use (kept_does _ _) ?_
          rintro _ _ ⟨rfl, rfl⟩
          simp only [List.cons_append] at k95
          rw [k95]
          simp
        | false =>
          rw [hk] at hcd
          simp [h0, h3, f1, f2, f3, f4, L1, L2, L3, L4]
          refine does_use (by simpa using hcd _) ?_
          rintro _ _ ⟨rfl, rfl⟩
          simp [h0, h3, L1]
          refine does_use (kept_does _ _) ?_
          rintro _ _ ⟨rfl, rfl⟩
          simp only [List.cons_append] at k95
          rw [k95]
          simp
      | cons x b =>
        have hlt : (a.length : Int) < a.length + (b.length + 1) := by omega
        simp only [List.length_cons] at h2
        have hw : IntKind.i64.wrap ((a.length : Int) + 1) = a.length + 1 := IntWalk.i64_in _ (by omega)
        by_cases g1 : (x.toNat : Int) < 97
        · simp [h0, h3, hlt, g1]
        · by_cases g2 : (122 : Int) < x.toNat
          · simp [h0, h3, hlt, g1, g2]
          · simp [h0, h3, hlt, g1, g2, hw]
            refine ⟨b.length, by omega, a ++ [x], b, by simp, rfl, ?_, by simp⟩
            intro y hy
            simp only [List.mem_append, List.mem_singleton] at hy
            rcases hy with hy | rfl
            · exact ha y hy
            · simp [isLetter]; omega
end Go.Proofs.YtjopfgmnlibgjaaDoor

/-
  The library's error value is there; strings as arguments.
-/



namespace Go.Proofs.YtjopfgmnlibgjaaDoor
open Go Go.Abs Go.Lex

def isErrCell : Option AV → Bool
  | some (.vptr [.iface _ _]) => true
  | _ => false
theorem errCell : isErrCell (Gof tab 2) = true := by kernel_rfl
theorem hasErr : HasErr (Gof tab) := by
  have h := errCell
  unfold isErrCell at h
  split at h
  · rename_i t v he; exact ⟨t, v, he⟩
  · simp at h

set_option maxRecDepth 100000 in
theorem shp_str' {n : Nat} {a : AV} (h : Shp Tryd.prog (n + 1) 9 [a]) : ∃ s, a = .str s ∧ s.length ≤ maxLen := by
  simp only [Shp, Tryd.underlying9] at h
  obtain ⟨s, h, hl⟩ := h
  simp only [List.cons.injEq, and_true] at h
  exact ⟨s, h, hl⟩
set_option maxRecDepth 100000 in
theorem shp_str {a : AV} (h : Shp Tryd.prog 8 9 [a]) : ∃ s, a = .str s ∧ s.length ≤ maxLen := shp_str' (n := 7) h
end Go.Proofs.YtjopfgmnlibgjaaDoor

/-
  LexNames, at whatever string.
-/


namespace Go.Proofs.YtjopfgmnlibgjaaDoor
open Go Go.Abs Go.Lex
set_option maxRecDepth 100000 in
theorem names_law (H : AHeap) (a : AV) (ha : Shp Tryd.prog 8 9 [a]) : Does Tryd.prog (Gof tab) 6 [a] H fun r _ => r = .bool true := by
  obtain ⟨s, rfl, _⟩ := shp_str ha
  exact names_run hasErr H s
end Go.Proofs.YtjopfgmnlibgjaaDoor
