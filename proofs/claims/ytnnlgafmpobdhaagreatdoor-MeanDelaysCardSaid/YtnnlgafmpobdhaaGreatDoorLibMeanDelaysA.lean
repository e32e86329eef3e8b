/-
  Own library of this claim, part 5: texts one behind the other (MnDl, MnDF, FrM, MnDW).
-/
import Derived.Test.YtnnlgafmpobdhaaGreatDoorLibD

/-
  What comes so many ticks later.
-/

namespace Go.Proofs.YtnnlgafmpobdhaaGreatDoor
/-- What comes so many ticks later. -/
def dlN (x : Nat → Int) (m i : Nat) : Int := if i < m then 7 else x (i - m)
theorem dlN_step (x : Nat → Int) (m i : Nat) : dlN x (m + 1) (i + 1) = dlN x m i := by
  unfold dlN
  by_cases h : i < m
  · rw [if_pos h, if_pos (by omega)]
  · rw [if_neg h, if_neg (by omega), Nat.add_sub_add_right]
theorem dlN_zero (x : Nat → Int) (i : Nat) : dlN x 0 i = x i := rfl
theorem dlN_first (x : Nat → Int) (m : Nat) : dlN x (m + 1) 0 = 7 := rfl
end Go.Proofs.YtnnlgafmpobdhaaGreatDoor

/-
  The programs of MeanDelays, one family: a row of so many delays; its text, its tree, its machine.
-/


namespace Go.Proofs.YtnnlgafmpobdhaaGreatDoor
open Go Go.Abs Go.Lex Go.RowKit
set_option maxRecDepth 100000
set_option linter.unusedVariables false
set_option linter.unusedSimpArgs false

/-- The expression's text. -/
def dX : Nat → List UInt8
  | 0 => [120]
  | n + 1 => [55,32,102,98,121,32] ++ dX n
def dT (n : Nat) : List UInt8 := [110,111,100,101,32,102,40,120,58,32,105,110,116,41,32,114,101,116,117,114,110,115,32,40,121,58,32,105,110,116,41,59,32,108,101,116,32,121,32,61,32] ++ dX n ++ [59,32,116,101,108]
def dNum (p : Nat) : List AV := [.str [105,110,116], .str [], .int .i64 7, .int .i64 (p : Int), .nilsl]
def dVar (p : Nat) : List AV := [.str [118,97,114], .str [120], .int .i64 0, .int .i64 (p : Int), .nilsl]
def dFby (p : Nat) (kids : AV) : List AV := [.str [102,98,121], .str [], .int .i64 0, .int .i64 ((p + 2 : Nat) : Int), kids]
/-- The tree of so many delays, at a place. -/
def dE : Nat → Nat → List AV
  | 0, p => dVar p
  | m + 1, p => dFby p (.vsl (dNum p ++ dE m (p + 6)) 2)
def dIns : AV := .vsl [.str [120], .int .i64 2, .str [], .bool false, .int .i64 7] 1
def dOuts : AV := .vsl [.str [121], .int .i64 2, .str [], .bool false, .int .i64 24] 1
def dEqs (n : Nat) : AV := .vsl ([.str [121]] ++ dE n 41 ++ [.int .i64 37]) 1
def dCells (n : Nat) : List AV := [.str [102], dIns, dOuts, .nilsl, dEqs n, .int .i64 0]
def dN (n : Nat) : AV := .vsl (dCells n) 1
def dOk : AV := .agg [.int .i64 0, .int .i64 0]
def dLit (n : Nat) : AV := .tuple [dN n, dOk]
def dMain (n : Nat) : AV := .agg [.str [102], dIns, dOuts, .vsl [] 0, dEqs n, .int .i64 0]

def dK (m p b : Nat) : List AV := match m with
  | 0 => dVar p
  | _ + 1 => dFby p (.sl b 0 5 2 2 true)
def dY (m p b : Nat) : List AV := match m with
  | 0 => dVar p ++ [.nilsl, .nilsl, .bool false]
  | _ + 1 => [.str [102,98,121], .str [], .int .i64 0, .int .i64 ((p + 2 : Nat) : Int), .nilsl, .nilsl, .sl (b + 2) 0 8 2 2 true, .bool false]
def dP (m b : Nat) : Nat := match m with
  | 0 => b
  | _ + 1 => b + 1
/-- The machine's blocks beneath a place: m delays, from the k-th on. -/
def dL (s : Bool) (f g c d : Nat → Int) (v w : Int) : Nat → Nat → Nat → Nat → List AObj
  | 0, _, p, _ => [.cells (dVar p ++ [.nilsl, .nilsl, .bool false, .nilsl, .nilptr, .bool false, .int .i64 v, .int .i64 w])]
  | m + 1, k, p, b =>
    .cells (dNum p ++ dK m (p + 6) (b + 5)) ::
    .cells [.str [102,98,121], .str [], .int .i64 0, .int .i64 ((p + 2 : Nat) : Int), .nilsl, .nilsl, .sl (b + 2) 0 8 2 2 true, .bool false, .sl (b + 3) 0 1 2 2 true, .nilptr, .bool s, .int .i64 (f k), .int .i64 (g k)] ::
    .cells (dNum p ++ [.nilsl, .nilsl, .bool true] ++ dY m (p + 6) (b + 5)) ::
    .cells [.ptr (b + 4) 0, .ptr (dP m (b + 5)) 0] ::
    .cells (dNum p ++ [.nilsl, .nilsl, .bool true, .nilsl, .nilptr, .bool false, .int .i64 (c k), .int .i64 (d k)]) ::
    dL s f g c d v w m (k + 1) (p + 6) (b + 5)
def dG (n : Nat) (s : Bool) (mp : List (AV × AV)) (f g c d : Nat → Int) (v w : Int) : List AObj :=
  .cells [.str [102], .sl 1 0 5 1 1 true, .sl 2 0 5 1 1 true, .sl 3 0 5 0 0 false, .sl 4 0 7 1 1 true, .int .i64 0, .sl 5 0 1 1 1 true, .map 6, .map 7, .nilsl] ::
  .cells [.str [120], .int .i64 2, .str [], .bool false, .int .i64 7] ::
  .cells [.str [121], .int .i64 2, .str [], .bool false, .int .i64 24] ::
  .cells [] ::
  .cells ([.str [121]] ++ dK n 41 8 ++ [.int .i64 37]) ::
  .cells [.str [121]] ::
  .map [(.str [121], .ptr (dP n 8) 0)] ::
  .map mp ::
  dL s f g c d v w n 0 41 8
theorem dL_len (s : Bool) (f g c d : Nat → Int) (v w : Int) : ∀ m k p b, (dL s f g c d v w m k p b).length = 1 + 5 * m
  | 0, _, _, _ => rfl
  | m + 1, k, p, b => by
    have := dL_len s f g c d v w m (k + 1) (p + 6) (b + 5)
    simp only [dL, List.length_cons, this]
    omega
theorem dG_len (n : Nat) (s : Bool) (mp : List (AV × AV)) (f g c d : Nat → Int) (v w : Int) : (dG n s mp f g c d v w).length = 9 + 5 * n := by
  simp only [dG, List.length_cons, dL_len]
  omega
/-- What it tells at a tick; what the delays keep behind it. -/
def dOut (n : Nat) (z : Int) (x : Int) : Int := match n with
  | 0 => x
  | _ + 1 => z
def dNext (n : Nat) (f : Nat → Int) (x : Int) (k : Nat) : Int := if k + 1 < n then f (k + 1) else x
def dMp (a b : Int) : List (AV × AV) := [(.str [120], .int .i64 a), (.str [121], .int .i64 b)]

/-- What is known of the program of n delays. -/
structure DFam (n : Nat) : Prop where
  check : ∀ H, Does Tryz.prog (Gof tab) 15 [.str (dT n)] H fun r h => r = dLit n ∧ h = H
  main : ∀ H, Does Tryz.prog (Gof tab) 20 [dN n] H fun r h => r = dMain n ∧ h = H
  count : ∀ H, Does Tryz.prog (Gof tab) 22 [dN n] H fun r h => r = .int .i64 1 ∧ h = H
  begun : ∀ H, Does Tryz.prog (Gof tab) 23 [dN n] H fun r h => ∃ ρ : Nat → Nat, IsPart (AHeap.ofList (dG n false [] (fun _ => 0) (fun _ => 0) (fun _ => 0) (fun _ => 0) 0 0)) ρ h ∧ (∀ i, i < (dG n false [] (fun _ => 0) (fun _ => 0) (fun _ => 0) (fun _ => 0) 0 0).length → H.next ≤ ρ i) ∧ r = .ptr (ρ 0) 0 ∧ H.next ≤ h.next ∧ ∀ j, j < H.next → h.get j = H.get j
  ok0 : ∀ f g c d v w, heapOk (9 + 5 * n) (dG n false [] f g c d v w) = true
  ok1 : ∀ a b f g c d v w, heapOk (9 + 5 * n) (dG n true (dMp a b) f g c d v w) = true
  tick0 : ∀ f g c d v w x, Does Tryz.prog (Gof tab) 24 [.ptr 0 0, .vsl [.int .i64 x] 1] (AHeap.ofList (dG n false [] f g c d v w)) fun r h => r = .vsl [.int .i64 (dOut n 7 x)] 1 ∧ h = AHeap.ofList (dG n true (dMp x (dOut n 7 x)) (dNext n (fun _ => 7) x) (dNext n (fun _ => 7) x) c d v w)
  tick1 : ∀ a b f g c d v w x, Does Tryz.prog (Gof tab) 24 [.ptr 0 0, .vsl [.int .i64 x] 1] (AHeap.ofList (dG n true (dMp a b) f g c d v w)) fun r h => r = .vsl [.int .i64 (dOut n (f 0) x)] 1 ∧ h = AHeap.ofList (dG n true (dMp x (dOut n (f 0) x)) (dNext n f x) (dNext n f x) c d v w)

theorem dfits (x : Int) (H : AHeap) : Does Tryz.prog (Gof tab) 21 [dIns, .vsl [.int .i64 x] 1] H fun r h => r = .bool true ∧ h = H :=
  sym_does (fuel := 100000) (n := 300) nmixed nplain knownW_good ngof (by kernel_rfl) (fun Q => by kernel_rfl) (fun _ => rfl) H

def dRow (x : Nat → Int) (i : Nat) : AV := .vsl [.int .i64 (x i)] 1
def dWant (x : Nat → Int) (n i : Nat) : AV := .vsl [.int .i64 (dlN x n i)] 1
theorem dmachine {n : Nat} (D : DFam n) (x : Nat → Int) (N : Nat) : ∃ g, MeanMachine (Gof tab) (9 + 5 * n) g (dN n) ((List.range N).map (dRow x)) ((List.range N).map (dWant x n)) := by
  refine machine_rel (B := dG n false [] (fun _ => 0) (fun _ => 0) (fun _ => 0) (fun _ => 0) 0 0) (I := fun i l => (i = 0 ∧ ∃ f g c d v w, l = dG n false [] f g c d v w) ∨ (∃ a b f g c d v w, l = dG n true (dMp a b) f g c d v w ∧ ∀ k, k < n → f k = dlN x (n - k) i))
    ngof (by omega) (.inl ⟨rfl, _, _, _, _, _, _, rfl⟩) ?_ ?_ ?_ (c0 := .str [102]) (ins := dIns) (c2 := dOuts) (c3 := .vsl [] 0) (c4 := dEqs n) (c5 := .int .i64 0) rfl D.main ?_ (cn := 1) (by decide) D.count D.begun ?_
  · rintro i l (⟨_, f, g, c, d, v, w, rfl⟩ | ⟨a, b, f, g, c, d, v, w, rfl, _⟩)
    · exact ⟨dG_len _ _ _ _ _ _ _ _ _, D.ok0 _ _ _ _ _ _⟩
    · exact ⟨dG_len _ _ _ _ _ _ _ _ _, D.ok1 _ _ _ _ _ _ _ _⟩
  · intro i _
    exact ⟨rfl, fun _ => rfl⟩
  · intro i _
    exact ⟨rfl, rfl, fun _ => rfl⟩
  · intro i _ H
    exact dfits (x i) H
  · rintro i l hin (⟨rfl, f, g, c, d, v, w, rfl⟩ | ⟨a, b, f, g, c, d, v, w, rfl, hf⟩)
    · refine ⟨_, .inr ⟨_, _, _, _, _, _, _, _, rfl, fun k hk => ?_⟩, (D.tick0 f g c d v w (x 0)).mono fun r h ⟨e1, e2⟩ => ⟨e1.trans ?_, e2⟩⟩
      · unfold dNext dlN
        by_cases h : k + 1 < n
        · rw [if_pos h, if_pos (by omega)]
        · rw [if_neg h, if_neg (by omega), show 0 + 1 - (n - k) = 0 by omega]
      · show AV.vsl [.int .i64 (dOut n 7 (x 0))] 1 = .vsl [.int .i64 (dlN x n 0)] 1
        cases n <;> rfl
    · refine ⟨_, .inr ⟨_, _, _, _, _, _, _, _, rfl, fun k hk => ?_⟩, (D.tick1 a b f g c d v w (x i)).mono fun r h ⟨e1, e2⟩ => ⟨e1.trans ?_, e2⟩⟩
      · unfold dNext
        by_cases h : k + 1 < n
        · rw [if_pos h, hf _ h, show n - k = n - (k + 1) + 1 by omega, dlN_step]
        · rw [if_neg h, show n - k = 0 + 1 by omega, dlN_step, dlN_zero]
      · show AV.vsl [.int .i64 (dOut n (f 0) (x i))] 1 = .vsl [.int .i64 (dlN x n i)] 1
        cases n with
        | zero => rfl
        | succ n => show AV.vsl [.int .i64 (f 0)] 1 = _; rw [hf 0 (by omega)]; rfl
end Go.Proofs.YtnnlgafmpobdhaaGreatDoor

/-
  One slice of rows that a loop builds.
-/

namespace Go.Abs
open Go

/-- A slice of rows that a loop builds, beside what was there. -/
def Rows1 (H0 H : AHeap) (v : AV) (row : Nat → List Int) (w i : Nat) : Prop :=
  ∃ S : Nat → Prop, Rws H0.next H v row w i S ∧ (∀ j, S j → H0.next ≤ j ∧ j < H.next) ∧ (∀ j x, H0.get j = some x → H.get j = some x) ∧ H0.next ≤ H.next

theorem Rows1.init (H : AHeap) (row : Nat → List Int) (w : Nat) : Rows1 H H .nilsl row w 0 :=
  ⟨fun _ => False, .inl ⟨rfl, rfl⟩, fun _ h => h.elim, fun _ _ h => h, Nat.le_refl _⟩

theorem Rows1.zero {H0 H : AHeap} {v : AV} {row : Nat → List Int} {w : Nat} (h : Rows1 H0 H v row w 0) : v = .nilsl := by
  obtain ⟨S, h1, _⟩ := h
  rcases h1 with ⟨_, rfl⟩ | ⟨h, _⟩
  · rfl
  · exact absurd h (Nat.lt_irrefl 0)

theorem Rows1.first {H0 H : AHeap} {v : AV} {row : Nat → List Int} {w : Nat} (h : Rows1 H0 H v row w 0) (hw : H0.Wf) {A : List AV} (eA : ri (row 0) = A) :
    Rows1 H0 (((H.push (.cells A)).push (.cells [.sl H.next 0 1 w w false])).push (.cells [.sl H.next 0 1 w w false])) (.sl (H.next + 1 + 1) 0 1 1 1 true) row w 1 := by
  obtain ⟨S, h1, hS, hk, hn⟩ := h
  subst eA
  refine ⟨fun j => j = H.next ∨ j = H.next + 1 + 1, Rws.first (r := H.next) ?_ ?_ hn (by omega) ?_ ?_ (by omega) (.inl rfl) (.inr rfl), ?_, ?_, ?_⟩
  · have e2 : H.next ≠ H.next + 1 + 1 := by omega
    simp [AHeap.push, e2]
  · simp [AHeap.push]
  · show H.next < H.next + 1 + 1 + 1; omega
  · show H.next + 1 + 1 < H.next + 1 + 1 + 1; omega
  · intro j h1
    show H0.next ≤ j ∧ j < H.next + 1 + 1 + 1
    omega
  · intro j x hj
    have := (hw j x hj).1
    have e0 : j ≠ H.next := by omega
    have e1 : j ≠ H.next + 1 := by omega
    have e2 : j ≠ H.next + 1 + 1 := by omega
    simp [AHeap.push, e0, e1, e2, hk j x hj]
  · show H0.next ≤ H.next + 1 + 1 + 1
    omega

theorem Rows1.more {H0 H : AHeap} {v : AV} {row : Nat → List Int} {w i : Nat} (h : Rows1 H0 H v row w i) (hi : 0 < i) (hw : H0.Wf) :
    ∃ (b : Nat) (ρ : Nat → Nat), v = .sl b 0 1 i i true ∧ H.get b = some (.cells ((List.range i).map fun k => .sl (ρ k) 0 1 w w false)) ∧ b < H.next ∧ ∀ A : List AV, ri (row i) = A →
      Rows1 H0 ((((H.push (.cells A)).push (.cells [.sl H.next 0 1 w w false])).kill b).push (.cells (((List.range i).map fun k => .sl (ρ k) 0 1 w w false) ++ [.sl H.next 0 1 w w false])))
        (.sl (H.next + 1 + 1) 0 1 (i + 1) (i + 1) true) row w (i + 1) := by
  obtain ⟨S, h1, hS, hk, hn⟩ := h
  rcases h1 with ⟨rfl, _⟩ | ⟨_, b, ρ, rfl, hb, hbn, hbl, hg, hr⟩
  · exact absurd hi (Nat.lt_irrefl 0)
  refine ⟨b, ρ, rfl, hg, hbl, ?_⟩
  rintro A rfl
  have keep : ∀ j, j < H.next → j ≠ b → ((((H.push (.cells (ri (row i)))).push (.cells [.sl H.next 0 1 w w false])).kill b).push (.cells (((List.range i).map fun k => .sl (ρ k) 0 1 w w false) ++ [.sl H.next 0 1 w w false]))).get j = H.get j := by
    intro j hj j1
    have e0 : j ≠ H.next := by omega
    have e1 : j ≠ H.next + 1 := by omega
    have e2 : j ≠ H.next + 1 + 1 := by omega
    simp [AHeap.push, AHeap.kill, e0, e1, e2, j1]
  refine ⟨fun j => S j ∨ j = H.next ∨ j = H.next + 1 + 1, Rws.more hi hr (fun j hj hj1 => keep j (hS j hj).2 hj1) ?_ ?_ hn (by omega) ?_ ?_ (by omega) (by omega), ?_, ?_, ?_⟩
  · have e2 : H.next ≠ H.next + 1 + 1 := by omega
    have e6 : H.next ≠ b := by omega
    simp [AHeap.push, AHeap.kill, e2, e6]
  · simp [AHeap.push, AHeap.kill]
  · show H.next < H.next + 1 + 1 + 1; omega
  · show H.next + 1 + 1 < H.next + 1 + 1 + 1; omega
  · intro j h1
    show H0.next ≤ j ∧ j < H.next + 1 + 1 + 1
    rcases h1 with h1 | h1
    · have := hS j h1; omega
    · omega
  · intro j x hj
    have := (hw j x hj).1
    rw [keep j (by omega) (by omega)]
    exact hk j x hj
  · show H0.next ≤ H.next + 1 + 1 + 1
    omega

theorem aws_one {X : Ctx} {c : Code} {Q : Post} {T : Nat → AV} {H H1 : AHeap} (a : Nat) {n : Nat} {row : Nat → List Int} {w : Nat} (hw : H.Wf) (r : Rows1 H H1 (T a) row w n) (hA : ∀ k, (row k).length = w)
    (h : ∀ T2 : Nat → AV, T2 a = fz ((List.range n).map fun k => .vsl (ri (row k)) w) → (∀ t, t ≠ a → T2 t = T t) → @AWs ⟨X⟩ ⟨c⟩ ⟨Q⟩ ⟨T2⟩ { next := H1.next, get := H.get }) :
    @AWs ⟨X⟩ ⟨c⟩ ⟨Q⟩ ⟨T⟩ H1 := by
  obtain ⟨S, h1, hS, hk, hn⟩ := r
  exact aws_freeze2 a a hw hk h1 h1 hA hA fun T2 h1 _ h3 => h T2 h1 fun t ht => h3 t ht ht
end Go.Abs

/-
  MeanDelays: a row of so many delays tells what came so many ticks ahead.
-/


namespace Go.Proofs.YtnnlgafmpobdhaaGreatDoor
open Go Go.Abs Go.Lex Go.RowKit
set_option maxRecDepth 100000
set_option linter.unusedVariables false
set_option linter.unusedSimpArgs false

theorem dX_len : ∀ n, (dX n).length = 1 + 6 * n
  | 0 => rfl
  | n + 1 => by rw [dX, List.length_append, dX_len n]; simp; omega
def dIn (x : Nat → Int) (k : Nat) : List Int := [x k]

set_option maxHeartbeats 4000000 in
theorem delays_run (hD : ∀ n, n ≤ 20 → DFam n) (n : Int) (x : Nat → Int) (m : Nat) (a1 : AV) (h1 : Arr (fun k => .int .i64 (x k)) m a1) (H : AHeap) :
    Does Tryz.prog (Gof tab) 4 [.int .i64 n, a1] H fun r _ => r = .bool true := by
  refine Does.wf Tryz.call4 fun hw _ => ?_
  have e1 := alen_ints h1
  refine does_f Tryz.call4 Tryz.func4 rfl (by simp [Tryz.f4]) ?_
  simp
  refine does_use (awake12 _) ?_
  rintro _ HX ⟨rfl, hHX⟩
  rw [hHX]
  clear hHX HX
  simp [e1, -alen]
  by_cases n0 : n < 0
  · simp [n0, e1, -alen]
  by_cases n20 : 20 < n
  · simp [n0, n20, e1, -alen]
  by_cases hm : 40 < m
  · have : (40 : Int) < m := by omega
    simp [n0, n20, this, e1, -alen]
  have hm' : ¬ ((40 : Int) < m) := by omega
  simp [n0, n20, hm', e1, -alen]
  obtain ⟨n, rfl⟩ : ∃ k : Nat, n = k := ⟨n.toNat, by omega⟩
  have hn : n ≤ 20 := by omega
  refine aws_loop (fun k T' H' => ∃ i : Nat, i + k = n ∧ T' 0 = .int .i64 n ∧ T' 1 = a1 ∧ T' 5 = .str (dX i) ∧ T' 6 = .nilsl ∧ T' 7 = .int .i64 i ∧ H' = H) n ?_ ?_
  · exact ⟨0, by simp, by simp, by simp, by simp [dX], by simp, by simp, rfl⟩
  rintro k T H1 ⟨i, hik, t0, t1, t5, t6, t7, rfl⟩
  by_cases hi : i < n
  · have g1 : (i : Int) < n := by omega
    have g2 : IntKind.i64.wrap ((i : Int) + 1) = ((i + 1 : Nat) : Int) := by rw [IntWalk.i64_in _ (by omega)]; omega
    have g3 := dX_len i
    have g4 : 6 + (1 + 6 * i) ≤ 9223372036854775807 := by omega
    simp [t0, t1, t5, t6, t7, hi, g1, g3, g4]
    exact ⟨k - 1, by omega, i + 1, by omega, rfl, g2⟩
  obtain rfl : i = n := by omega
  simp [t0, t1, t5, t6, t7]
  clear t7 hik hi
  refine aws_loops (fun k T' H' => ∃ j : Nat, j + k = m ∧ T' 0 = .int .i64 i ∧ T' 1 = a1 ∧ T' 5 = .str (dX i) ∧ T' 8 = .int .i64 j ∧ Rows1 H1 H' (T' 6) (dIn x) 1 j) m ?_ ?_
  · exact ⟨0, by simp, by simp [t0], by simp [t1], by simp [t5], by simp, by simpa [t6] using Rows1.init H1 _ _⟩
  clear t0 t1 t5 t6 T k
  rintro k T H2 ⟨j, hjk, t0, t1, t5, t8, hR⟩ hw1 _
  by_cases hj : j < m
  · have hjj : (j : Int) < m := by omega
    have p1 := arr_pos h1 (by omega)
    have q1 := at_range (f := fun k => AV.int .i64 (x k)) hj
    rw [p1] at t1 e1
    refine aws_f ?_
    have wr : IntKind.i64.wrap ((j : Int) + 1) = ((j + 1 : Nat) : Int) := by rw [IntWalk.i64_in _ (by omega)]; omega
    by_cases hj0 : j = 0
    · subst hj0
      have t6 := hR.zero
      simp [t0, t1, t5, t6, t8, e1, hj, hjj, q1, -alen]
      exact ⟨k - 1, by omega, 1, by omega, p1.symm, wr, hR.first hw (by simp [ri, dIn])⟩
    · obtain ⟨b, ρ, t6, hg, hbl, hR'⟩ := hR.more (by omega) hw
      have n1 : b ≠ H2.next := by omega
      have n2 : b ≠ H2.next + 1 := by omega
      have hgrow : ¬ (j + 1 ≤ j) := by omega
      have g3 : (j + 1) * 24 ≤ 140737488355328 := by omega
      have g4 : j ≤ 4611686018427387903 := by omega
      have k1 : List.take j (List.map (fun k => AV.sl (ρ k) 0 1 1 1 false) (List.range j)) = List.map (fun k => AV.sl (ρ k) 0 1 1 1 false) (List.range j) := List.take_of_length_le (by simp)
      simp [t0, t1, t5, t6, t8, e1, hj, hjj, q1, hg, n1, n2, hgrow, g3, g4, k1, -alen, -List.map_take]
      exact ⟨k - 1, by omega, j + 1, by omega, p1.symm, wr, hR' _ (by simp [ri, dIn])⟩
  obtain rfl : j = m := by omega
  refine aws_one 6 hw hR (fun _ => rfl) fun T2 f6 ft => aws_f ?_
  have u0 : T2 0 = .int .i64 (i : Nat) := (ft 0 (by decide)).trans t0
  have u1 : T2 1 = a1 := (ft 1 (by decide)).trans t1
  have u5 : T2 5 = .str (dX i) := (ft 5 (by decide)).trans t5
  have u8 : T2 8 = .int .i64 (j : Nat) := (ft 8 (by decide)).trans t8
  have g3 := dX_len i
  have g4 : 1 + 6 * i ≤ 9223372036854775761 := by omega
  have g5 : 41 + (1 + 6 * i) ≤ 9223372036854775807 := by omega
  simp [u0, u1, u5, u8, f6, e1, g3, g4, g5, -alen]
  have D := hD i hn
  obtain ⟨g, M⟩ := dmachine D x j
  have hM := m_text M (by decide) (by simp; omega) D.check
  simp only [dT, List.cons_append, List.nil_append, List.append_assoc] at hM
  have hsc : (rowsV ((List.range j).map (dWant x i))).scalar = true := by unfold rowsV; split <;> rfl
  have hal := alen_rows ((List.range j).map (dWant x i))
  simp only [List.length_map, List.length_range] at hal
  refine does_use (hM _) ?_
  rintro _ HX ⟨rfl, hHX⟩
  rw [hHX]
  clear hHX HX
  simp [u0, u1, u5, u8, f6, e1, hsc, hal, dOk, -alen]
  refine aws_loop (fun k T' H' => ∃ q : Nat, q + k = j ∧ T' 0 = .int .i64 i ∧ T' 1 = a1 ∧ T' 9 = rowsV ((List.range j).map (dWant x i)) ∧ T' 11 = .int .i64 q) j ?_ ?_
  · exact ⟨0, by simp, by simp [u0], by simp [u1], by simp, by simp⟩
  clear u0 u1 u5 u8 f6 ft T2 t0 t1 t5 t8 hR hw1 hjk hj
  rintro k' T H3 ⟨q, hqk, t0, t1, t9, t11⟩
  by_cases hq : q < j
  · have hqq : (q : Int) < j := by omega
    have p1 := arr_pos h1 (by omega)
    rw [p1] at t1 e1
    have p9 : rowsV ((List.range j).map (dWant x i)) = .vsl ((List.range j).map (dWant x i)) j := by
      unfold rowsV
      rw [if_neg (by simp; omega)]
      simp
    rw [p9] at t9
    have q9 := at_range (f := dWant x i) hq
    have hal1 : ∀ z : Int, alen Tryz.prog 31 (.vsl [.int .i64 z] 1) = some (.int .i64 1) := fun _ => rfl
    have wr : IntKind.i64.wrap ((q : Int) + 1) = ((q + 1 : Nat) : Int) := by rw [IntWalk.i64_in _ (by omega)]; omega
    by_cases hi : i ≤ q
    · have hii : (i : Int) ≤ q := by omega
      have q1 := at_range (f := fun k => AV.int .i64 (x k)) (show q - i < j by omega)
      have ws : IntKind.i64.wrap ((q : Int) - i) = ((q - i : Nat) : Int) := by rw [IntWalk.i64_in _ (by omega)]; omega
      have hd : dWant x i q = .vsl [.int .i64 (x (q - i))] 1 := by unfold dWant dlN; rw [if_neg (by omega)]
      have hji : q - i < j := by omega
      rw [hd] at q9
      simp [t0, t1, t9, t11, e1, hq, hqq, hi, hii, q1, q9, hd, hal1, ws, hji, -alen]
      exact ⟨k' - 1, by omega, q + 1, by omega, p1.symm, p9.symm, wr⟩
    · have hii : ¬ (i : Int) ≤ q := by omega
      have hd : dWant x i q = .vsl [.int .i64 7] 1 := by unfold dWant dlN; rw [if_pos (by omega)]
      rw [hd] at q9
      simp [t0, t1, t9, t11, e1, hq, hqq, hi, hii, q9, hd, hal1, -alen]
      exact ⟨k' - 1, by omega, q + 1, by omega, p1.symm, p9.symm, wr⟩
  · simp [t0, t1, t9, t11, e1, hq, -alen]
end Go.Proofs.YtnnlgafmpobdhaaGreatDoor
