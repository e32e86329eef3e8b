/-
  Own library of this claim, part 9: texts one behind the other (SyN0).
-/
import Derived.Test.YtenembgjdboakaaGreatDoorLibSynNestsH

/-
  SynNests, evaluated where it is short, by its first words where it is long.
-/



namespace Go.Proofs.YtenembgjdboakaaGreatDoor
open Go Go.Abs Go.Lex
set_option linter.unusedSimpArgs false
set_option maxRecDepth 100000

def parseEnd (x : List Syn.Nd × Syn.St) : Except (Nat × Nat) (List Syn.Nd) := if x.2.err = 0 then .ok x.1 else .error (x.2.err, x.2.pos)
theorem parse_cut {t : Bs} {l : List (Nat × Wd)} {W : Syn.Ws} (hL : ¬ 16384 < t.length) (h1 : cutS t.length t = .ok l) (hW : W = l ++ [(t.length, ⟨0, [], 0⟩)]) : Syn.parse t = parseEnd (Syn.nodesL W 33 [] ⟨0, 0, 0, 0, 0⟩) := by
  unfold Syn.parse parseEnd
  rw [if_neg hL, h1]
  simp only
  rw [← hW]
theorem err_end {t : Bs} {x : List Syn.Nd × Syn.St} {e : Nat} (h : Syn.parse t = parseEnd x) (he : x.2.err = e) : errOf t = e := by
  unfold errOf
  rw [h]
  unfold parseEnd
  by_cases h0 : x.2.err = 0
  · rw [if_pos h0]; exact h0.symm.trans he
  · rw [if_neg h0]; exact he
def Deep (ws : List Wd) (e : Nat) : Prop := ∀ (p : Nat → Nat) (rest : Syn.Ws), (Syn.nodesL (mkW p 0 ws ++ rest) 33 [] ⟨0, 0, 0, 0, 0⟩).2.err = e
theorem Deep.at {ws : List Wd} {e : Nat} (h : Deep ws e) {p : Nat → Nat} {rest W : Syn.Ws} (hW : W = mkW p 0 ws ++ rest) : (Syn.nodesL W 33 [] ⟨0, 0, 0, 0, 0⟩).2.err = e := by
  subst hW
  exact h p rest
theorem err_deep {t : Bs} {ws rs : List Wd} {e : Nat} (hL : ¬ 16384 < t.length) (hc : Cuts t.length t (ws ++ rs)) (hd : Deep ws e) : errOf t = e := by
  obtain ⟨l, h1, h2⟩ := hc
  have h3 : (l ++ [(t.length, (⟨0, [], 0⟩ : Wd))]).map (·.2) = ws ++ (rs ++ [⟨0, [], 0⟩]) := by rw [List.map_append, h2]; simp
  obtain ⟨p, rest, h4⟩ := mkW_of ws _ _ 0 h3
  exact err_end (parse_cut hL h1 h4.symm) (hd.at rfl)

theorem nest0a : ((List.range 30).all fun n => parseOv [.str (nestT [40] [41] n)] FH.empty fun v _ => errIs 0 v) = true := by kernel_rfl
theorem nest0b : ((List.range 10).all fun n => parseOv [.str (nestT [40] [41] (n + 30))] FH.empty fun v _ => errIs 2 v) = true := by kernel_rfl
theorem nest1a : ((List.range 30).all fun n => parseOv [.str (nestT [112, 114, 101, 32] [] n)] FH.empty fun v _ => errIs 0 v) = true := by kernel_rfl
theorem nest1b : ((List.range 10).all fun n => parseOv [.str (nestT [112, 114, 101, 32] [] (n + 30))] FH.empty fun v _ => errIs 2 v) = true := by kernel_rfl
theorem nest2a : ((List.range 30).all fun n => parseOv [.str (nestT [97, 32, 45, 62, 32] [] n)] FH.empty fun v _ => errIs 0 v) = true := by kernel_rfl
theorem nest2b : ((List.range 10).all fun n => parseOv [.str (nestT [97, 32, 45, 62, 32] [] (n + 30))] FH.empty fun v _ => errIs 2 v) = true := by kernel_rfl
theorem nest3b : ((List.range 2).all fun n => parseOv [.str (nestT [97, 32, 43, 32] [] (n + 150))] FH.empty fun v _ => errIs 2 v) = true := by kernel_rfl

theorem err_nest {u e : Bs} (a b m : Nat) (ha : ∀ n, n < a → parseOv [.str (nestT u e n)] FH.empty (fun v _ => errIs 0 v) = true)
    (hb : ((List.range b).all fun n => parseOv [.str (nestT u e (n + a))] FH.empty fun v _ => errIs 2 v) = true) (hm : m = a + b) (hbig : ∀ n, m ≤ n → n ≤ 320 → errOf (nestT u e n) = 2) (n : Nat) (hn : n ≤ 320) : errOf (nestT u e n) = if n < a then 0 else 2 := by
  rw [List.all_eq_true] at hb
  by_cases h1 : n < a
  · rw [if_pos h1]
    exact (errIs_of (ha n h1)).1
  rw [if_neg h1]
  by_cases h2 : n < m
  · have := hb (n - a) (by simp; omega)
    rw [show n - a + a = n by omega] at this
    exact (errIs_of this).1
  · exact hbig n (by omega) hn

theorem all_lt {a : Nat} {f : Nat → Bool} (h : (List.range a).all f = true) : ∀ n, n < a → f n = true := fun n hn => by
  rw [List.all_eq_true] at h
  exact h n (by simpa using hn)
theorem nest3a (n : Nat) (h : n < 150) : parseOv [.str (nestT [97, 32, 43, 32] [] n)] FH.empty (fun v _ => errIs 0 v) = true := by
  have key : ∀ j, ((List.range 10).all fun n => parseOv [.str (nestT [97, 32, 43, 32] [] (n + 10 * j))] FH.empty fun v _ => errIs 0 v) = true → n / 10 = j → parseOv [.str (nestT [97, 32, 43, 32] [] n)] FH.empty (fun v _ => errIs 0 v) = true := fun j hj hn => by
    have := all_lt hj (n % 10) (by omega)
    rw [show n % 10 + 10 * j = n by omega] at this
    exact this
  have h15 : n / 10 < 15 := by omega
  match hq : n / 10, h15 with
  | 0, _ => exact key 0 nest3a0 hq
  | 1, _ => exact key 1 nest3a1 hq
  | 2, _ => exact key 2 nest3a2 hq
  | 3, _ => exact key 3 nest3a3 hq
  | 4, _ => exact key 4 nest3a4 hq
  | 5, _ => exact key 5 nest3a5 hq
  | 6, _ => exact key 6 nest3a6 hq
  | 7, _ => exact key 7 nest3a7 hq
  | 8, _ => exact key 8 nest3a8 hq
  | 9, _ => exact key 9 nest3a9 hq
  | 10, _ => exact key 10 nest3a10 hq
  | 11, _ => exact key 11 nest3a11 hq
  | 12, _ => exact key 12 nest3a12 hq
  | 13, _ => exact key 13 nest3a13 hq
  | 14, _ => exact key 14 nest3a14 hq
  | q + 15, h => exact absurd h (by omega)
theorem cuts_tail (e : Bs) (he : e = [] ∨ e = [41]) (n k : Nat) : ∃ L, Cuts n (97 :: (repB k e ++ [59, 32, 116, 101, 108])) L := by
  rcases he with rfl | rfl
  · rw [repB_none]
    exact ⟨_, cuts_a⟩
  · cases k with
    | zero => exact ⟨_, cuts_a⟩
    | succ k => exact ⟨_, cuts_ab (Cuts.rep cuts_uc (k + 1) cuts_end)⟩
theorem err_big {u e : Bs} {uw : List Wd} (m : Nat) (hu : ∀ {n : Nat} (q : Bs) (L : List Wd), Cuts n q L → Cuts n (u ++ q) (uw ++ L)) (he : e = [] ∨ e = [41]) (hul : u.length ≤ 5)
    (hd : Deep (hdW ++ repW m uw) 2) (n : Nat) (hm : m ≤ n) (hn : n ≤ 320) : errOf (nestT u e n) = 2 := by
  have hlen : ¬ 16384 < (nestT u e n).length := by
    rw [nestT_len]
    have h1 : n * u.length ≤ 320 * 5 := Nat.mul_le_mul hn hul
    have h2 : n * e.length ≤ 320 * 1 := Nat.mul_le_mul hn (by rcases he with rfl | rfl <;> simp)
    omega
  obtain ⟨L, hL⟩ := cuts_tail e he (nestT u e n).length n
  have h1 : Cuts (nestT u e n).length (nestT u e n) (hdW ++ (repW n uw ++ L)) := cuts_hd (Cuts.rep hu n hL)
  have h2 : hdW ++ (repW n uw ++ L) = (hdW ++ repW m uw) ++ (repW (n - m) uw ++ L) := by
    rw [show n = m + (n - m) by omega, repW_add]
    simp [List.append_assoc]
  rw [h2] at h1
  exact err_deep hlen h1 hd

theorem dp0 : Deep (hdW ++ repW 40 uW0) 2 := fun p rest => congrFun (congrFun Syn.deep0 p) rest
theorem dp1 : Deep (hdW ++ repW 40 uW1) 2 := fun p rest => congrFun (congrFun Syn.deep1 p) rest
theorem dp2 : Deep (hdW ++ repW 40 uW2) 2 := fun p rest => congrFun (congrFun Syn.deep2 p) rest
theorem dp3 : Deep (hdW ++ repW 152 uW3) 2 := fun p rest => congrFun (congrFun Syn.deep3 p) rest
theorem err0 (n : Nat) (hn : n ≤ 320) : errOf (nestT [40] [41] n) = if n < 30 then 0 else 2 :=
  err_nest 30 10 40 (all_lt nest0a) nest0b rfl (fun n h1 h2 => err_big 40 cuts_u0 (.inr rfl) (by simp) dp0 n h1 h2) n hn
theorem err1 (n : Nat) (hn : n ≤ 320) : errOf (nestT [112, 114, 101, 32] [] n) = if n < 30 then 0 else 2 :=
  err_nest 30 10 40 (all_lt nest1a) nest1b rfl (fun n h1 h2 => err_big 40 cuts_u1 (.inl rfl) (by simp) dp1 n h1 h2) n hn
theorem err2 (n : Nat) (hn : n ≤ 320) : errOf (nestT [97, 32, 45, 62, 32] [] n) = if n < 30 then 0 else 2 :=
  err_nest 30 10 40 (all_lt nest2a) nest2b rfl (fun n h1 h2 => err_big 40 cuts_u2 (.inl rfl) (by simp) dp2 n h1 h2) n hn
theorem err3 (n : Nat) (hn : n ≤ 320) : errOf (nestT [97, 32, 43, 32] [] n) = if n < 150 then 0 else 2 :=
  err_nest 150 2 152 nest3a nest3b rfl (fun n h1 h2 => err_big 152 cuts_u3 (.inl rfl) (by simp) dp3 n h1 h2) n hn
end Go.Proofs.YtenembgjdboakaaGreatDoor
