/-
  A simplified meaning for Go code, nineteenth part: the evaluator, for closed calls.
-/
import Derived.Test.YtcbiaeoladjecaaAbsR
namespace Go.Abs
open Go

/-! ### a heap as data -/

inductive Trie where
  | leaf
  | node (v : Option AObj) (l r : Trie)
  deriving Inhabited

def Trie.getF : Nat → Nat → Trie → Option AObj
  | _, _, .leaf => none
  | 0, _, .node v _ _ => v
  | f + 1, n, .node v l r => if n = 0 then v else if n % 2 = 1 then Trie.getF f (n / 2) l else Trie.getF f (n / 2 - 1) r

def Trie.setF : Nat → Nat → Option AObj → Trie → Trie
  | 0, _, x, .leaf => .node x .leaf .leaf
  | 0, _, x, .node _ l r => .node x l r
  | f + 1, n, x, .leaf => if n = 0 then .node x .leaf .leaf else if n % 2 = 1 then .node none (Trie.setF f (n / 2) x .leaf) .leaf else .node none .leaf (Trie.setF f (n / 2 - 1) x .leaf)
  | f + 1, n, x, .node v l r => if n = 0 then .node x l r else if n % 2 = 1 then .node v (Trie.setF f (n / 2) x l) r else .node v l (Trie.setF f (n / 2 - 1) x r)

theorem Trie.getF_leaf (f n : Nat) : Trie.getF f n .leaf = none := by cases f <;> rfl

theorem Trie.get_setF : ∀ (f n m : Nat) (x : Option AObj) (t : Trie), n ≤ f → m ≤ f → Trie.getF f m (Trie.setF f n x t) = if m = n then x else Trie.getF f m t
  | 0, n, m, x, t, hn, hm => by
    have : n = 0 := by omega
    have : m = 0 := by omega
    subst_vars
    cases t <;> simp [Trie.setF, Trie.getF]
  | f + 1, n, m, x, t, hn, hm => by
    have ihl : ∀ t, n % 2 = 1 → m % 2 = 1 → Trie.getF f (m / 2) (Trie.setF f (n / 2) x t) = if m = n then x else Trie.getF f (m / 2) t := fun t h1 h2 => by
      rw [Trie.get_setF f (n / 2) (m / 2) x t (by omega) (by omega)]
      by_cases e : m = n
      · rw [if_pos e, if_pos (by omega)]
      · rw [if_neg e, if_neg (by omega)]
    have ihr : ∀ t, n ≠ 0 → m ≠ 0 → n % 2 ≠ 1 → m % 2 ≠ 1 → Trie.getF f (m / 2 - 1) (Trie.setF f (n / 2 - 1) x t) = if m = n then x else Trie.getF f (m / 2 - 1) t := fun t h0 h0' h1 h2 => by
      rw [Trie.get_setF f (n / 2 - 1) (m / 2 - 1) x t (by omega) (by omega)]
      by_cases e : m = n
      · rw [if_pos e, if_pos (by omega)]
      · rw [if_neg e, if_neg (by omega)]
    have key : ∀ v l r, Trie.getF (f + 1) m (Trie.setF (f + 1) n x (.node v l r)) = if m = n then x else Trie.getF (f + 1) m (.node v l r) := fun v l r => by
      by_cases hn0 : n = 0
      · by_cases hm0 : m = 0
        · simp [Trie.setF, Trie.getF, hn0, hm0]
        · simp [Trie.setF, Trie.getF, hn0, hm0]
      · by_cases hn1 : n % 2 = 1
        · by_cases hm0 : m = 0
          · have : ¬ (0 = n) := by omega
            simp [Trie.setF, Trie.getF, hn0, hm0, hn1, this]
          · by_cases hm1 : m % 2 = 1
            · simp only [Trie.setF, Trie.getF, if_neg hn0, if_pos hn1, if_neg hm0, if_pos hm1]
              exact ihl l hn1 hm1
            · have : ¬ (m = n) := fun e => hm1 (by rw [e]; exact hn1)
              simp only [Trie.setF, Trie.getF, if_neg hn0, if_pos hn1, if_neg hm0, if_neg hm1, if_neg this]
        · by_cases hm0 : m = 0
          · have : ¬ (0 = n) := by omega
            simp [Trie.setF, Trie.getF, hn0, hm0, hn1, this]
          · by_cases hm1 : m % 2 = 1
            · have : ¬ (m = n) := fun e => hn1 (by rw [← e]; exact hm1)
              simp only [Trie.setF, Trie.getF, if_neg hn0, if_neg hn1, if_neg hm0, if_pos hm1, if_neg this]
            · simp only [Trie.setF, Trie.getF, if_neg hn0, if_neg hn1, if_neg hm0, if_neg hm1]
              exact ihr r hn0 hm0 hn1 hm1
    cases t with
    | leaf =>
      have e1 : Trie.setF (f + 1) n x .leaf = Trie.setF (f + 1) n x (.node none .leaf .leaf) := rfl
      have e2 : Trie.getF (f + 1) m .leaf = Trie.getF (f + 1) m (.node none .leaf .leaf) := by
        simp only [Trie.getF]
        split
        · rfl
        · split <;> simp
      rw [e1, e2]
      exact key none .leaf .leaf
    | node v l r => exact key v l r

/-- The width: numbers up to it. -/
def width : Nat := 1000000000

structure CH where
  next : Nat
  t : Trie
  deriving Inhabited

def CH.get (H : CH) (i : Nat) : Option AObj := if i < width then Trie.getF width i H.t else none
def CH.abs (H : CH) : AHeap := { next := H.next, get := H.get }
def CH.empty : CH := ⟨0, .leaf⟩
def CH.set (H : CH) (i : Nat) (x : Option AObj) : CH := { next := H.next, t := Trie.setF width i x H.t }

theorem CH.get_set (H : CH) {i : Nat} (x : Option AObj) (hi : i < width) (j : Nat) : (H.set i x).get j = if j = i then x else H.get j := by
  unfold CH.get CH.set
  by_cases hj : j < width
  · simp only [if_pos hj]
    exact Trie.get_setF width i j x H.t (Nat.le_of_lt hi) (Nat.le_of_lt hj)
  · simp only [if_neg hj]
    rw [if_neg (by omega)]

/-- Nothing if the heap grows too great. -/
def CH.eff (H : CH) : AEff → Option CH
  | .same => some H
  | .put i x => if i < width then some (H.set i (some x)) else none
  | .new x => if H.next < width then some { next := H.next + 1, t := Trie.setF width H.next (some x) H.t } else none
  | .move i x => if H.next < width ∧ i < width then some { next := H.next + 1, t := Trie.setF width H.next (some x) (Trie.setF width i none H.t) } else none

theorem CH.eff_abs {H H' : CH} {e : AEff} (h : H.eff e = some H') : H'.abs = H.abs.eff e := by
  cases e with
  | same => simp only [CH.eff, Option.some.injEq] at h; subst h; rfl
  | put i x =>
    simp only [CH.eff] at h
    split at h <;> try (simp at h; done)
    rename_i hi
    simp only [Option.some.injEq] at h; subst h
    refine AHeap.ext' rfl fun j => ?_
    simp only [CH.abs, AHeap.eff, AHeap.get_set]
    exact CH.get_set H _ hi j
  | new x =>
    simp only [CH.eff] at h
    split at h <;> try (simp at h; done)
    rename_i hi
    simp only [Option.some.injEq] at h; subst h
    refine AHeap.ext' rfl fun j => ?_
    simp only [CH.abs, AHeap.eff, AHeap.get_push]
    exact CH.get_set H (some x) hi j
  | move i x =>
    simp only [CH.eff] at h
    split at h <;> try (simp at h; done)
    rename_i hi
    simp only [Option.some.injEq] at h; subst h
    refine AHeap.ext' rfl fun j => ?_
    have h1 := CH.get_set (H.set i none) (i := H.next) (some x) hi.1 j
    have h2 := CH.get_set H (i := i) none hi.2 j
    rw [h2] at h1
    exact h1

/-! ### slots as data -/

def tfun (T : List AV) : Nat → AV := fun t => T.getD t undefA

def cput (T : List AV) : Option Tmp → AV → List AV
  | some d, v => T.set d v
  | none, _ => T

theorem cput_fun {N : Nat} {T : List AV} (hN : T.length = N) (d : Option Tmp) (v : AV) (hd : ∀ k, d = some k → k < N) : tfun (cput T d v) = tput (tfun T) d v := by
  cases d with
  | none => rfl
  | some k =>
    funext t
    simp only [tfun, cput, tput]
    by_cases e : t = k
    · subst e
      rw [if_pos rfl]
      have := hd t rfl
      have hlt : t < T.length := by rw [hN]; exact this
      simp only [List.getD]
      rw [List.getElem?_set_self hlt]
      rfl
    · rw [if_neg e]
      simp [List.getD, List.getElem?_set_ne (fun e' => e e'.symm)]

theorem cput_length (T : List AV) (d : Option Tmp) (v : AV) : (cput T d v).length = T.length := by cases d <;> simp [cput]

/-! ### one operation -/

/-- An operation: what it gives, the heap behind it, its kind. -/
def cstep (ω : FuncId → List AV → CH → Option (AV × CH)) (P : Program) (G : Nat → Option AV) (ops : Array Oper) (o : Oper) (T : List AV) (H : CH) : Option (AV × CH × Kind) :=
  if awanted ops (tfun T) o then
    match o.op with
    | .load .. => match aread P (aval G (tfun T)) H.get o with
      | some v => some (v, H, .read)
      | none => none
    | .convert .. => match apure P (aval G (tfun T)) o with
      | some v => some (v, H, .idle)
      | none => match aread P (aval G (tfun T)) H.get o with
        | some v => some (v, H, .read)
        | none => match aalloc P (aval G (tfun T)) o with
          | some (cs, f) => match H.eff (.new (.cells cs)) with
            | some H' => some (f H.next, H', .alloc cs)
            | none => none
          | none => match aeff P (aval G (tfun T)) H.get H.next o with
            | some (v, e) => match H.eff e with
              | some H' => some (v, H', .eff)
              | none => none
            | none => none
    | .alloc _ | .box .. | .buildSlice .. | .makeSlice .. => match aalloc P (aval G (tfun T)) o with
      | some (cs, f) => match H.eff (.new (.cells cs)) with
        | some H' => some (f H.next, H', .alloc cs)
        | none => none
      | none => none
    | .store .. => match aeff P (aval G (tfun T)) H.get H.next o with
      | some (v, e) => match H.eff e with
        | some H' => some (v, H', .eff)
        | none => none
      | none => none
    | .call c => match c.callee with
      | .builtin b => match b with
        | .append | .copy | .clear => match aeff P (aval G (tfun T)) H.get H.next o with
          | some (v, e) => match H.eff e with
            | some H' => some (v, H', .eff)
            | none => none
          | none => none
        | _ => match apure P (aval G (tfun T)) o with
          | some v => some (v, H, .idle)
          | none => none
      | .value _ => match acallee (aval G (tfun T)) o with
        | some (f, args) => match ω f args H with
          | some (v, H') => some (v, H', .eff)
          | none => none
        | none => none
      | _ => none
    | _ => match apure P (aval G (tfun T)) o with
      | some v => some (v, H, .idle)
      | none => none
  else some (undefA, H, .idle)

def Good (P : Program) (G : Nat → Option AV) (ω : FuncId → List AV → CH → Option (AV × CH)) : Prop :=
  ∀ f args H r H', ω f args H = some (r, H') → Does P G f args H.abs fun r' h => r' = r ∧ h = H'.abs

theorem cstep_sound {ω : FuncId → List AV → CH → Option (AV × CH)} {P : Program} {G : Nat → Option AV} (hω : Good P G ω) {ops : Array Oper} {o : Oper} {T : List AV} {H H' : CH} {v : AV} {k : Kind} (h : cstep ω P G ops o T H = some (v, H', k)) :
    Step P G ops o (tfun T) H.abs v k H'.abs := by
  unfold cstep at h
  have idleCase : awanted ops (tfun T) o = true → (match apure P (aval G (tfun T)) o with | some v => some (v, H, Kind.idle) | none => none) = some (v, H', k) → Step P G ops o (tfun T) H.abs v k H'.abs := fun hw h => by
    split at h
    · rename_i u hu
      simp only [Option.some.injEq, Prod.mk.injEq] at h; obtain ⟨rfl, rfl, rfl⟩ := h
      exact ⟨.inr ⟨hw, hu⟩, rfl⟩
    · simp at h
  have allocCase : awanted ops (tfun T) o = true → (match aalloc P (aval G (tfun T)) o with | some (cs, f) => (match H.eff (.new (.cells cs)) with | some H' => some (f H.next, H', Kind.alloc cs) | none => none) | none => none) = some (v, H', k) → Step P G ops o (tfun T) H.abs v k H'.abs := fun hw h => by
    split at h
    · rename_i cs f hcs
      split at h
      · rename_i H2 hH
        simp only [Option.some.injEq, Prod.mk.injEq] at h; obtain ⟨rfl, rfl, rfl⟩ := h
        exact ⟨hw, f, hcs, rfl, CH.eff_abs hH⟩
      · simp at h
    · simp at h
  have effCase : awanted ops (tfun T) o = true → (match aeff P (aval G (tfun T)) H.get H.next o with | some (v, e) => (match H.eff e with | some H' => some (v, H', Kind.eff) | none => none) | none => none) = some (v, H', k) → Step P G ops o (tfun T) H.abs v k H'.abs := fun hw h => by
    split at h
    · rename_i u e hu
      split at h
      · rename_i H2 hH
        simp only [Option.some.injEq, Prod.mk.injEq] at h; obtain ⟨rfl, rfl, rfl⟩ := h
        exact ⟨hw, .inl ⟨e, hu, CH.eff_abs hH⟩⟩
      · simp at h
    · simp at h
  split at h
  · rename_i hw
    split at h
    · split at h
      · rename_i u hu
        simp only [Option.some.injEq, Prod.mk.injEq] at h; obtain ⟨rfl, rfl, rfl⟩ := h
        exact ⟨hw, hu, rfl⟩
      · simp at h
    · split at h
      · rename_i u hu
        simp only [Option.some.injEq, Prod.mk.injEq] at h; obtain ⟨rfl, rfl, rfl⟩ := h
        exact ⟨.inr ⟨hw, hu⟩, rfl⟩
      · split at h
        · rename_i u hu
          simp only [Option.some.injEq, Prod.mk.injEq] at h; obtain ⟨rfl, rfl, rfl⟩ := h
          exact ⟨hw, hu, rfl⟩
        · split at h
          · rename_i cs f hcs
            split at h
            · rename_i H2 hH
              simp only [Option.some.injEq, Prod.mk.injEq] at h; obtain ⟨rfl, rfl, rfl⟩ := h
              exact ⟨hw, f, hcs, rfl, CH.eff_abs hH⟩
            · simp at h
          · exact effCase hw h
    · exact allocCase hw h
    · exact allocCase hw h
    · exact allocCase hw h
    · exact allocCase hw h
    · exact effCase hw h
    · split at h
      · split at h
        · exact effCase hw h
        · exact effCase hw h
        · exact effCase hw h
        · exact idleCase hw h
      · split at h
        · rename_i f args hc
          split at h
          · rename_i u H2 hu
            simp only [Option.some.injEq, Prod.mk.injEq] at h; obtain ⟨rfl, rfl, rfl⟩ := h
            exact ⟨hw, .inr ⟨f, args, hc, hω _ _ _ _ _ hu⟩⟩
          · simp at h
        · simp at h
      · simp at h
    · exact idleCase hw h
  · rename_i hw
    simp only [Option.some.injEq, Prod.mk.injEq] at h; obtain ⟨rfl, rfl, rfl⟩ := h
    exact ⟨.inl ⟨by simpa using hw, rfl⟩, rfl⟩

end Go.Abs
