/-
  A quick evaluator for closed calls, second part: lists, blocks and the heap, forced step by step (what comes behind is handed on).
-/
import Derived.Test.YtcbiaeoladjecaaFxA
namespace Go.Abs
open Go

/-! ### forcing -/
section
variable {R : Type}
noncomputable def natK (n : Nat) (k : Nat → R) : R := Nat.rec (motive := fun _ => R) (k 0) (fun p _ => k (Nat.succ p)) n
@[simp] theorem natK_eq (n : Nat) (k : Nat → R) : natK n k = k n := by cases n <;> rfl
noncomputable def intK (n : Int) (k : Int → R) : R := Int.rec (motive := fun _ => R) (fun m => natK m fun m => k (Int.ofNat m)) (fun m => natK m fun m => k (Int.negSucc m)) n
@[simp] theorem intK_eq (n : Int) (k : Int → R) : intK n k = k n := by cases n <;> simp [intK]
noncomputable def boolK (b : Bool) (k : Bool → R) : R := Bool.rec (motive := fun _ => R) (k false) (k true) b
@[simp] theorem boolK_eq (b : Bool) (k : Bool → R) : boolK b k = k b := by cases b <;> rfl
noncomputable def AV.force (v : AV) (k : AV → R) : R :=
  AV.rec (motive_1 := fun _ => R) (motive_2 := fun _ => Unit)
    (fun b => boolK b fun b => k (.bool b)) (fun kd n => intK n fun n => k (.int kd n)) (fun s => k (.str s)) (k .nilptr)
    (fun i o => natK i fun i => natK o fun o => k (.ptr i o)) (fun cs _ => k (.vptr cs)) (k .nilsl)
    (fun i o z len cap opn => natK i fun i => natK o fun o => natK len fun len => natK cap fun cap => boolK opn fun opn => k (.sl i o z len cap opn))
    (fun cs n _ => natK n fun n => k (.vsl cs n)) (k .nilmap) (fun fn a b _ _ => k (.func fn a b)) (k .nilfunc) (fun t v _ => k (.iface t v)) (k .niliface)
    (fun cs _ => k (.agg cs)) (fun cs _ => k (.tuple cs)) () (fun _ _ _ _ => ()) v
@[simp] theorem AV.force_eq (v : AV) (k : AV → R) : v.force k = k v := by cases v <;> simp [AV.force]

/-! ### looking at a value -/
noncomputable def AV.onInt (z : R) (f : IntKind → Int → R) (v : AV) : R :=
  AV.rec (motive_1 := fun _ => R) (motive_2 := fun _ => Unit) (fun _ => z) f (fun _ => z) z (fun _ _ => z) (fun _ _ => z) z (fun _ _ _ _ _ _ => z) (fun _ _ _ => z) z (fun _ _ _ _ _ => z) z (fun _ _ _ => z) z (fun _ _ => z) (fun _ _ => z) () (fun _ _ _ _ => ()) v
noncomputable def AV.onBool (z : R) (f : Bool → R) (v : AV) : R :=
  AV.rec (motive_1 := fun _ => R) (motive_2 := fun _ => Unit) f (fun _ _ => z) (fun _ => z) z (fun _ _ => z) (fun _ _ => z) z (fun _ _ _ _ _ _ => z) (fun _ _ _ => z) z (fun _ _ _ _ _ => z) z (fun _ _ _ => z) z (fun _ _ => z) (fun _ _ => z) () (fun _ _ _ _ => ()) v
noncomputable def AV.onPtr (z : R) (f : Nat → Nat → R) (g : List AV → R) (v : AV) : R :=
  AV.rec (motive_1 := fun _ => R) (motive_2 := fun _ => Unit) (fun _ => z) (fun _ _ => z) (fun _ => z) z f (fun cs _ => g cs) z (fun _ _ _ _ _ _ => z) (fun _ _ _ => z) z (fun _ _ _ _ _ => z) z (fun _ _ _ => z) z (fun _ _ => z) (fun _ _ => z) () (fun _ _ _ _ => ()) v
noncomputable def AV.onSl (z nl : R) (f : Nat → Nat → Nat → Nat → Nat → Bool → R) (g : List AV → Nat → R) (v : AV) : R :=
  AV.rec (motive_1 := fun _ => R) (motive_2 := fun _ => Unit) (fun _ => z) (fun _ _ => z) (fun _ => z) z (fun _ _ => z) (fun _ _ => z) nl f (fun cs n _ => g cs n) z (fun _ _ _ _ _ => z) z (fun _ _ _ => z) z (fun _ _ => z) (fun _ _ => z) () (fun _ _ _ _ => ()) v
noncomputable def AV.onStr (z : R) (f : List UInt8 → R) (v : AV) : R :=
  AV.rec (motive_1 := fun _ => R) (motive_2 := fun _ => Unit) (fun _ => z) (fun _ _ => z) f z (fun _ _ => z) (fun _ _ => z) z (fun _ _ _ _ _ _ => z) (fun _ _ _ => z) z (fun _ _ _ _ _ => z) z (fun _ _ _ => z) z (fun _ _ => z) (fun _ _ => z) () (fun _ _ _ _ => ()) v
noncomputable def AV.onAgg (z : R) (f : List AV → R) (v : AV) : R :=
  AV.rec (motive_1 := fun _ => R) (motive_2 := fun _ => Unit) (fun _ => z) (fun _ _ => z) (fun _ => z) z (fun _ _ => z) (fun _ _ => z) z (fun _ _ _ _ _ _ => z) (fun _ _ _ => z) z (fun _ _ _ _ _ => z) z (fun _ _ _ => z) z (fun cs _ => f cs) (fun _ _ => z) () (fun _ _ _ _ => ()) v
noncomputable def AV.onTuple (z : R) (f : List AV → R) (v : AV) : R :=
  AV.rec (motive_1 := fun _ => R) (motive_2 := fun _ => Unit) (fun _ => z) (fun _ _ => z) (fun _ => z) z (fun _ _ => z) (fun _ _ => z) z (fun _ _ _ _ _ _ => z) (fun _ _ _ => z) z (fun _ _ _ _ _ => z) z (fun _ _ _ => z) z (fun _ _ => z) (fun cs _ => f cs) () (fun _ _ _ _ => ()) v
noncomputable def AV.onFunc (z : R) (f : Fn → List AV → List AV → R) (v : AV) : R :=
  AV.rec (motive_1 := fun _ => R) (motive_2 := fun _ => Unit) (fun _ => z) (fun _ _ => z) (fun _ => z) z (fun _ _ => z) (fun _ _ => z) z (fun _ _ _ _ _ _ => z) (fun _ _ _ => z) z (fun fn a b _ _ => f fn a b) z (fun _ _ _ => z) z (fun _ _ => z) (fun _ _ => z) () (fun _ _ _ _ => ()) v
end

theorem AV.onInt_inv {z : Bool} {f : IntKind → Int → Bool} {v : AV} (h : v.onInt z f = true) : (∃ k n, v = .int k n ∧ f k n = true) ∨ (z = true ∧ ∀ k n, v ≠ .int k n) := by
  cases v <;> first | exact .inl ⟨_, _, rfl, h⟩ | exact .inr ⟨h, fun _ _ e => by simp at e⟩
theorem AV.onBool_inv {z : Bool} {f : Bool → Bool} {v : AV} (h : v.onBool z f = true) : (∃ b, v = .bool b ∧ f b = true) ∨ (z = true ∧ ∀ b, v ≠ .bool b) := by
  cases v <;> first | exact .inl ⟨_, rfl, h⟩ | exact .inr ⟨h, fun _ e => by simp at e⟩
theorem AV.onPtr_inv {f : Nat → Nat → Bool} {g : List AV → Bool} {v : AV} (h : v.onPtr false f g = true) : (∃ i o, v = .ptr i o ∧ f i o = true) ∨ (∃ cs, v = .vptr cs ∧ g cs = true) := by
  cases v <;> first | exact .inl ⟨_, _, rfl, h⟩ | exact .inr ⟨_, rfl, h⟩ | simp [AV.onPtr] at h
theorem AV.onSl_inv {nl : Bool} {f : Nat → Nat → Nat → Nat → Nat → Bool → Bool} {g : List AV → Nat → Bool} {v : AV} (h : v.onSl false nl f g = true) :
    (v = .nilsl ∧ nl = true) ∨ (∃ i o z len cap opn, v = .sl i o z len cap opn ∧ f i o z len cap opn = true) ∨ (∃ cs n, v = .vsl cs n ∧ g cs n = true) := by
  cases v <;> first | exact .inl ⟨rfl, h⟩ | exact .inr (.inl ⟨_, _, _, _, _, _, rfl, h⟩) | exact .inr (.inr ⟨_, _, rfl, h⟩) | simp [AV.onSl] at h
theorem AV.onStr_inv {z : Bool} {f : List UInt8 → Bool} {v : AV} (h : v.onStr z f = true) : (∃ s, v = .str s ∧ f s = true) ∨ (z = true ∧ ∀ s, v ≠ .str s) := by
  cases v <;> first | exact .inl ⟨_, rfl, h⟩ | exact .inr ⟨h, fun _ e => by simp at e⟩
theorem AV.onAgg_inv {f : List AV → Bool} {v : AV} (h : v.onAgg false f = true) : ∃ cs, v = .agg cs ∧ f cs = true := by
  cases v <;> first | exact ⟨_, rfl, h⟩ | simp [AV.onAgg] at h
theorem AV.onTuple_inv {f : List AV → Bool} {v : AV} (h : v.onTuple false f = true) : ∃ cs, v = .tuple cs ∧ f cs = true := by
  cases v <;> first | exact ⟨_, rfl, h⟩ | simp [AV.onTuple] at h
theorem AV.onFunc_inv {f : Fn → List AV → List AV → Bool} {v : AV} (h : v.onFunc false f = true) : ∃ a b c, v = .func a b c ∧ f a b c = true := by
  cases v <;> first | exact ⟨_, _, _, rfl, h⟩ | simp [AV.onFunc] at h

noncomputable def ifK {R : Type} (b : Bool) (x y : R) : R := Bool.rec (motive := fun _ => R) y x b
@[simp] theorem ifK_true {R : Type} (x y : R) : ifK true x y = x := rfl
@[simp] theorem ifK_false {R : Type} (x y : R) : ifK false x y = y := rfl
theorem ifK_inv {b x : Bool} (h : ifK b x false = true) : b = true ∧ x = true := by cases b <;> simp_all [ifK]

/-! ### lists -/
/-- A stop, so that the way does not grow deep. -/
def stepK {R : Type} (x : R) : R := x
section
variable {α R : Type}
noncomputable def nthK (l : List α) : Nat → (α → R) → R → R :=
  List.rec (motive := fun _ => Nat → (α → R) → R → R) (fun _ _ z => z) (fun a _ ih n k z => Nat.rec (motive := fun _ => R) (k a) (fun m _ => stepK (ih m k z)) n) l
theorem nthK_eq : ∀ (l : List α) (n : Nat) (k : α → R) (z : R), nthK l n k z = match l[n]? with | some a => k a | none => z
  | [], n, k, z => rfl
  | a :: l, 0, k, z => rfl
  | a :: l, n + 1, k, z => by
    have e : nthK (a :: l) (n + 1) k z = nthK l n k z := rfl
    rw [e, nthK_eq l n k z]; simp
noncomputable def setK (l : List α) : Nat → α → (List α → R) → R → R :=
  List.rec (motive := fun _ => Nat → α → (List α → R) → R → R) (fun _ _ _ z => z) (fun a l ih n v k z => Nat.rec (motive := fun _ => R) (k (v :: l)) (fun m _ => stepK (ih m v (fun r => stepK (k (a :: r))) z)) n) l
theorem setK_eq : ∀ (l : List α) (n : Nat) (v : α) (k : List α → R) (z : R), setK l n v k z = if n < l.length then k (l.set n v) else z
  | [], n, v, k, z => by simp [setK]
  | a :: l, 0, v, k, z => by
    have e : setK (a :: l) 0 v k z = k (v :: l) := rfl
    rw [e]; simp
  | a :: l, n + 1, v, k, z => by
    have e : setK (a :: l) (n + 1) v k z = setK l n v (fun r => k (a :: r)) z := rfl
    rw [e, setK_eq l n v (fun r => k (a :: r)) z]; simp
noncomputable def dropK (l : List α) : Nat → (List α → R) → R → R :=
  List.rec (motive := fun _ => Nat → (List α → R) → R → R) (fun n k z => Nat.rec (motive := fun _ => R) (k []) (fun _ _ => z) n) (fun a l ih n k z => Nat.rec (motive := fun _ => R) (k (a :: l)) (fun m _ => stepK (ih m k z)) n) l
theorem dropK_eq : ∀ (l : List α) (n : Nat) (k : List α → R) (z : R), dropK l n k z = if n ≤ l.length then k (l.drop n) else z
  | [], 0, k, z => by
    have e : dropK ([] : List α) 0 k z = k [] := rfl
    rw [e]; simp
  | [], n + 1, k, z => by
    have e : dropK ([] : List α) (n + 1) k z = z := rfl
    rw [e]; simp
  | a :: l, 0, k, z => by
    have e : dropK (a :: l) 0 k z = k (a :: l) := rfl
    rw [e]; simp
  | a :: l, n + 1, k, z => by
    have e : dropK (a :: l) (n + 1) k z = dropK l n k z := rfl
    rw [e, dropK_eq l n k z]; simp
/-- Turned round, onto m. -/
noncomputable def revK (l m : List α) (k : List α → R) : R := List.rec (motive := fun _ => List α → (List α → R) → R) (fun m k => k m) (fun a _ ih m k => stepK (ih (a :: m) k)) l m k
theorem revK_eq : ∀ (l m : List α) (k : List α → R), revK l m k = k (l.reverse ++ m)
  | [], m, k => rfl
  | a :: l, m, k => by
    have e : revK (a :: l) m k = revK l (a :: m) k := rfl
    rw [e, revK_eq l]; simp
noncomputable def takeA (l : List α) : Nat → List α → (List α → R) → R → R :=
  List.rec (motive := fun _ => Nat → List α → (List α → R) → R → R) (fun n m k z => Nat.rec (motive := fun _ => R) (revK m [] k) (fun _ _ => z) n)
    (fun a _ ih n m k z => Nat.rec (motive := fun _ => R) (revK m [] k) (fun n _ => stepK (ih n (a :: m) k z)) n) l
theorem takeA_eq : ∀ (l : List α) (n : Nat) (m : List α) (k : List α → R) (z : R), takeA l n m k z = if n ≤ l.length then k (m.reverse ++ l.take n) else z
  | [], 0, m, k, z => by
    have e : takeA ([] : List α) 0 m k z = revK m [] k := rfl
    rw [e, revK_eq]; simp
  | [], n + 1, m, k, z => by
    have e : takeA ([] : List α) (n + 1) m k z = z := rfl
    rw [e]; simp
  | a :: l, 0, m, k, z => by
    have e : takeA (a :: l) 0 m k z = revK m [] k := rfl
    rw [e, revK_eq]; simp
  | a :: l, n + 1, m, k, z => by
    have e : takeA (a :: l) (n + 1) m k z = takeA l n (a :: m) k z := rfl
    rw [e, takeA_eq l n (a :: m) k z]; simp
noncomputable def takeK (l : List α) (n : Nat) (k : List α → R) (z : R) : R := takeA l n [] k z
theorem takeK_eq (l : List α) (n : Nat) (k : List α → R) (z : R) : takeK l n k z = if n ≤ l.length then k (l.take n) else z := by
  unfold takeK; rw [takeA_eq]; simp
noncomputable def lenA (l : List α) : Nat → Nat := List.rec (motive := fun _ => Nat → Nat) (fun n => n) (fun _ _ ih n => natK (Nat.succ n) fun n => stepK (ih n)) l
theorem lenA_eq : ∀ (l : List α) (n : Nat), lenA l n = l.length + n
  | [], n => by simp [lenA]
  | a :: l, n => by
    have e : lenA (a :: l) n = natK (Nat.succ n) (lenA l) := rfl
    rw [e, natK_eq, lenA_eq l]; simp; omega
noncomputable def lenN (l : List α) : Nat := lenA l 0
theorem lenN_eq (l : List α) : lenN l = l.length := lenA_eq l 0
noncomputable def appK (l m : List α) (k : List α → R) : R := List.rec (motive := fun _ => (List α → R) → R) (fun k => k m) (fun a _ ih k => stepK (ih fun r => stepK (k (a :: r)))) l k
theorem appK_eq (m : List α) : ∀ (l : List α) (k : List α → R), appK l m k = k (l ++ m)
  | [], k => rfl
  | a :: l, k => by
    have e : appK (a :: l) m k = appK l m (fun r => k (a :: r)) := rfl
    rw [e, appK_eq m l]; rfl
noncomputable def allB (p : α → Bool) (l : List α) : Bool := List.rec (motive := fun _ => Bool) true (fun a _ ih => ifK (p a) ih false) l
theorem allB_eq (p : α → Bool) : ∀ l : List α, allB p l = l.all p
  | [] => rfl
  | a :: l => by
    have e : allB p (a :: l) = ifK (p a) (allB p l) false := rfl
    rw [e, allB_eq p l, List.all_cons]
    cases p a <;> rfl
end
noncomputable def AV.sc (v : AV) : Bool := AV.rec (motive_1 := fun _ => Bool) (motive_2 := fun _ => Unit) (fun _ => true) (fun _ _ => true) (fun _ => true) true (fun _ _ => true) (fun _ _ => true) true (fun _ _ _ _ _ _ => true) (fun _ _ _ => true) true (fun _ _ _ _ _ => true) true (fun _ _ _ => true) true (fun _ _ => false) (fun _ _ => false) () (fun _ _ _ _ => ()) v
theorem AV.sc_eq (v : AV) : v.sc = v.scalar := by cases v <;> rfl
noncomputable def AV.cs (v : AV) : List AV := AV.rec (motive_1 := fun _ => List AV) (motive_2 := fun _ => Unit) (fun _ => [v]) (fun _ _ => [v]) (fun _ => [v]) [v] (fun _ _ => [v]) (fun _ _ => [v]) [v] (fun _ _ _ _ _ _ => [v]) (fun _ _ _ => [v]) [v] (fun _ _ _ _ _ => [v]) [v] (fun _ _ _ => [v]) [v] (fun cs _ => cs) (fun _ _ => [v]) () (fun _ _ _ _ => ()) v
theorem AV.cs_eq (v : AV) : v.cs = v.cells := by cases v <;> rfl

/-! ### three levels of 32 -/

abbrev R3 (α : Type) := E32 (E32 (E32 α))
section
variable {α R : Type}
noncomputable def R3.get (i : Nat) (t : R3 α) : α := (P32.of (Nat.mod i 32)).get ((P32.of (Nat.mod (Nat.div i 32) 32)).get ((P32.of (Nat.div i 1024)).get t))
noncomputable def R3.set (i : Nat) (x : α) (t : R3 α) : R3 α :=
  let q := P32.of (i / 1024); let r := P32.of (i / 32 % 32); let s := P32.of (i % 32)
  q.set (r.set (s.set x (r.get (q.get t))) (q.get t)) t
noncomputable def R3.put (i : Nat) (x : α) (t : R3 α) (k : R3 α → R) : R :=
  (fun (b : E32 (E32 α)) => (P32.of (Nat.mod i 32)).put x ((P32.of (Nat.mod (Nat.div i 32) 32)).get b) fun e => (P32.of (Nat.mod (Nat.div i 32) 32)).put e b fun e => (P32.of (Nat.div i 1024)).put e t k) ((P32.of (Nat.div i 1024)).get t)
theorem R3.put_eq (i : Nat) (x : α) (t : R3 α) (k : R3 α → R) : R3.put i x t k = k (R3.set i x t) := by
  unfold R3.put R3.set
  simp only [P32.put_eq]
  rfl
theorem R3.get_set (i j : Nat) (x : α) (t : R3 α) (hi : i < 32768) (hj : j < 32768) : R3.get j (R3.set i x t) = if j = i then x else R3.get j t := by
  have e : ∀ n (t : R3 α), R3.get n t = (P32.of (n % 32)).get ((P32.of (n / 32 % 32)).get ((P32.of (n / 1024)).get t)) := fun _ _ => rfl
  rw [e, e]
  unfold R3.set
  simp only [P32.get_set]
  by_cases h : j = i
  · subst h; simp [P32.get_set]
  · rw [if_neg h]
    by_cases h2 : P32.of (j / 1024) = P32.of (i / 1024)
    · have g2 := P32.of_inj (by omega) (by omega) h2
      rw [if_pos h2, P32.get_set]
      by_cases h3 : P32.of (j / 32 % 32) = P32.of (i / 32 % 32)
      · have g3 := P32.of_inj (by omega) (by omega) h3
        rw [if_pos h3, P32.get_set]
        by_cases h4 : P32.of (j % 32) = P32.of (i % 32)
        · have g4 := P32.of_inj (by omega) (by omega) h4
          omega
        · rw [if_neg h4, h2, h3]
      · rw [if_neg h3, h2]
    · rw [if_neg h2]
theorem R3.get_all (i : Nat) (x : α) : R3.get i (E32.all (E32.all (E32.all x))) = x := by
  unfold R3.get
  simp only [P32.get_all]
end

/-! ### blocks -/

inductive FObj where
  | lst (cs : List AV)
  | arr (n : Nat) (t : R3 AV)

noncomputable def FObj.list : FObj → List AV
  | .lst cs => cs
  | .arr n t => (List.range n).map fun j => R3.get j t
noncomputable def FObj.abs (x : FObj) : AObj := .cells x.list

section
variable {R : Type}
noncomputable def FObj.len (x : FObj) : Nat := FObj.rec (motive := fun _ => Nat) (fun cs => lenN cs) (fun n _ => n) x
theorem FObj.len_eq (x : FObj) : x.len = x.list.length := by
  cases x with
  | lst cs => exact lenN_eq cs
  | arr n t => simp [FObj.len, FObj.list]
noncomputable def FObj.cellK (x : FObj) (o : Nat) (k : AV → R) (z : R) : R := FObj.rec (motive := fun _ => R) (fun cs => nthK cs o k z) (fun n t => ifK (Nat.blt o n) (k (R3.get o t)) z) x
theorem FObj.cellK_inv {x : FObj} {o : Nat} {k : AV → Bool} (h : x.cellK o k false = true) : ∃ v, x.list[o]? = some v ∧ k v = true := by
  cases x with
  | lst cs =>
    have h : nthK cs o k false = true := h
    rw [nthK_eq] at h
    split at h
    · rename_i a ha; exact ⟨a, ha, h⟩
    · simp at h
  | arr n t =>
    obtain ⟨h1, h2⟩ := ifK_inv h
    have h1 : o < n := Nat.le_of_ble_eq_true h1
    exact ⟨_, by simp [FObj.list, h1], h2⟩
noncomputable def rngA (t : R3 AV) (o n : Nat) : List AV → (List AV → R) → R := Nat.rec (motive := fun _ => List AV → (List AV → R) → R) (fun m k => k m) (fun i ih m k => natK (Nat.add o i) fun j => (R3.get j t).force fun a => stepK (ih (a :: m) k)) n
theorem rngA_eq (t : R3 AV) (o : Nat) : ∀ (n : Nat) (m : List AV) (k : List AV → R), rngA t o n m k = k (((List.range' o n).map fun j => R3.get j t) ++ m)
  | 0, m, k => rfl
  | n + 1, m, k => by
    have e : rngA t o (n + 1) m k = natK (o + n) fun j => (R3.get j t).force fun a => rngA t o n (a :: m) k := rfl
    rw [e, natK_eq, AV.force_eq, rngA_eq t o n]
    simp [List.range'_concat]
noncomputable def rngK (t : R3 AV) (n o : Nat) (k : List AV → R) : R := rngA t o n [] k
theorem rngK_eq (t : R3 AV) (n o : Nat) (k : List AV → R) : rngK t n o k = k ((List.range' o n).map fun j => R3.get j t) := by
  unfold rngK; rw [rngA_eq]; simp
noncomputable def FObj.cutK (x : FObj) (o n : Nat) (k : List AV → R) (z : R) : R :=
  FObj.rec (motive := fun _ => R) (fun cs => dropK cs o (fun l => takeK l n k z) z) (fun m t => ifK (Nat.ble (Nat.add o n) m) (natK o fun o => rngK t n o k) z) x
theorem FObj.cutK_inv {x : FObj} {o n : Nat} {k : List AV → Bool} (h : x.cutK o n k false = true) : o + n ≤ x.list.length ∧ k ((x.list.drop o).take n) = true := by
  cases x with
  | lst cs =>
    have h : dropK cs o (fun l => takeK l n k false) false = true := h
    rw [dropK_eq] at h
    split at h <;> try (simp at h; done)
    rw [takeK_eq] at h
    split at h <;> try (simp at h; done)
    rename_i h1 h2
    simp only [List.length_drop] at h2
    exact ⟨by simp only [FObj.list]; omega, h⟩
  | arr m t =>
    obtain ⟨h1, h2⟩ := ifK_inv h
    have h1 : o + n ≤ m := by simpa using h1
    rw [natK_eq, rngK_eq] at h2
    refine ⟨by simpa [FObj.list] using h1, ?_⟩
    have : (List.drop o (FObj.list (.arr m t))).take n = (List.range' o n).map fun j => R3.get j t := by
      simp only [FObj.list]
      rw [← List.map_drop, ← List.map_take]
      congr 1
      apply List.ext_getElem?
      intro j
      simp only [List.getElem?_take, List.getElem?_drop]
      by_cases hj : j < n
      · rw [if_pos hj, List.getElem?_range (by omega)]
        simp [hj]
      · rw [if_neg hj]; simp [hj]
    rw [this]; exact h2

/-- One cell is written. -/
noncomputable def FObj.wr1 (x : FObj) (o : Nat) (v : AV) (k : FObj → R) (z : R) : R :=
  FObj.rec (motive := fun _ => R) (fun cs => setK cs o v (fun l => k (.lst l)) z) (fun n t => ifK (Nat.blt o n) (ifK (Nat.ble n 32768) (R3.put o v t fun t => k (.arr n t)) z) z) x
theorem FObj.wr1_inv {x : FObj} {o : Nat} {v : AV} {k : FObj → Bool} (h : x.wr1 o v k false = true) : o < x.list.length ∧ ∃ y : FObj, y.list = x.list.set o v ∧ k y = true := by
  cases x with
  | lst cs =>
    have h : setK cs o v (fun l => k (.lst l)) false = true := h
    rw [setK_eq] at h
    split at h <;> try (simp at h; done)
    rename_i h1
    exact ⟨h1, _, rfl, h⟩
  | arr n t =>
    obtain ⟨h1, h⟩ := ifK_inv h
    obtain ⟨h2, h⟩ := ifK_inv h
    have h1 : o < n := Nat.le_of_ble_eq_true h1
    have h2 : n ≤ 32768 := Nat.le_of_ble_eq_true h2
    rw [R3.put_eq] at h
    refine ⟨by simpa [FObj.list] using h1, _, ?_, h⟩
    simp only [FObj.list]
    apply List.ext_getElem?
    intro j
    simp only [List.getElem?_map, List.getElem?_set, List.length_map, List.length_range]
    by_cases hj : j < n
    · rw [List.getElem?_range hj]
      simp only [Option.map_some]
      rw [R3.get_set o j v t (by omega) (by omega)]
      by_cases e : o = j
      · subst e; simp [h1]
      · rw [if_neg (fun x => e x.symm), if_neg e]
    · rw [List.getElem?_eq_none (by simp; omega)]
      by_cases e : o = j
      · subst e; omega
      · rw [if_neg e]; rfl

noncomputable def over0 {α : Type} (vs : List α) : List α → (List α → R) → R → R :=
  List.rec (motive := fun _ => List α → (List α → R) → R → R) (fun l k _ => k l) (fun v _ ih l k z => List.rec (motive := fun _ => R) z (fun _ l _ => stepK (ih l (fun r => stepK (k (v :: r))) z)) l) vs
theorem over0_eq {α : Type} : ∀ (vs l : List α) (k : List α → R) (z : R), over0 vs l k z = if vs.length ≤ l.length then k (vs ++ l.drop vs.length) else z
  | [], l, k, z => by
    have e : over0 [] l k z = k l := rfl
    rw [e]; simp
  | v :: vs, [], k, z => by
    have e : over0 (v :: vs) [] k z = z := rfl
    rw [e]; simp
  | v :: vs, a :: l, k, z => by
    have e : over0 (v :: vs) (a :: l) k z = over0 vs l (fun r => k (v :: r)) z := rfl
    simp [e, over0_eq vs l]
noncomputable def overK (l : List AV) : Nat → List AV → (List AV → R) → R → R :=
  List.rec (motive := fun _ => Nat → List AV → (List AV → R) → R → R) (fun o vs k z => Nat.rec (motive := fun _ => R) (over0 vs [] k z) (fun _ _ => z) o)
    (fun a l ih o vs k z => Nat.rec (motive := fun _ => R) (over0 vs (a :: l) k z) (fun m _ => stepK (ih m vs (fun r => stepK (k (a :: r))) z)) o) l
theorem overK_eq : ∀ (l : List AV) (o : Nat) (vs : List AV) (k : List AV → R) (z : R), overK l o vs k z = if o + vs.length ≤ l.length then k (splice l o vs) else z
  | [], 0, vs, k, z => by
    have e : overK [] 0 vs k z = over0 vs [] k z := rfl
    simp [e, over0_eq, splice]
  | [], o + 1, vs, k, z => by
    have e : overK [] (o + 1) vs k z = z := rfl
    rw [e, if_neg (by simp)]
  | a :: l, 0, vs, k, z => by
    have e : overK (a :: l) 0 vs k z = over0 vs (a :: l) k z := rfl
    simp [e, over0_eq, splice]
  | a :: l, o + 1, vs, k, z => by
    have e : overK (a :: l) (o + 1) vs k z = overK l o vs (fun r => k (a :: r)) z := rfl
    rw [e, overK_eq l]
    by_cases h : o + vs.length ≤ l.length
    · rw [if_pos h, if_pos (by simp; omega)]
      congr 1
      simp [splice, Nat.add_right_comm]
    · rw [if_neg h, if_neg (by simp; omega)]

/-- Cells are put one behind the other. -/
noncomputable def putsK (vs : List AV) : Nat → R3 AV → (R3 AV → R) → R :=
  List.rec (motive := fun _ => Nat → R3 AV → (R3 AV → R) → R) (fun _ t k => k t) (fun v _ ih o t k => R3.put o v t fun t => natK (Nat.add o 1) fun o => ih o t k) vs
theorem putsK_eq : ∀ (vs : List AV) (o : Nat) (t : R3 AV), o + vs.length ≤ 32768 → ∃ t', (∀ {R : Type} (k : R3 AV → R), putsK vs o t k = k t') ∧ ∀ j, j < 32768 → R3.get j t' = if o ≤ j then (match vs[j - o]? with | some v => v | none => R3.get j t) else R3.get j t
  | [], o, t, _ => ⟨t, fun _ => rfl, fun j _ => by simp⟩
  | v :: vs, o, t, h => by
    simp only [List.length_cons] at h
    obtain ⟨t', h1, h2⟩ := putsK_eq vs (o + 1) (R3.set o v t) (by omega)
    refine ⟨t', fun k => ?_, fun j hj => ?_⟩
    · have e : putsK (v :: vs) o t k = R3.put o v t fun t => natK (Nat.add o 1) fun o => putsK vs o t k := rfl
      rw [e, R3.put_eq, natK_eq]
      exact h1 k
    · have hs := R3.get_set o j v t (by omega) hj
      rw [h2 j hj]
      by_cases h3 : o + 1 ≤ j
      · rw [if_neg (by omega)] at hs
        rw [if_pos h3, if_pos (by omega), hs]
        have : j - o = (j - (o + 1)) + 1 := by omega
        rw [this, List.getElem?_cons_succ]
      · rw [if_neg h3, hs]
        by_cases h4 : j = o
        · subst h4; simp
        · rw [if_neg h4, if_neg (by omega)]
noncomputable def FObj.wrs (x : FObj) (o : Nat) (vs : List AV) (k : FObj → R) (z : R) : R :=
  FObj.rec (motive := fun _ => R) (fun cs => overK cs o vs (fun l => k (.lst l)) z) (fun n t => ifK (Nat.ble (Nat.add o (lenN vs)) n) (ifK (Nat.ble n 32768) (putsK vs o t fun t => k (.arr n t)) z) z) x
theorem FObj.wrs_inv {x : FObj} {o : Nat} {vs : List AV} {k : FObj → Bool} (h : x.wrs o vs k false = true) : o + vs.length ≤ x.list.length ∧ ∃ y : FObj, y.list = splice x.list o vs ∧ k y = true := by
  cases x with
  | lst cs =>
    have h : overK cs o vs (fun l => k (.lst l)) false = true := h
    rw [overK_eq] at h
    split at h <;> try (simp at h; done)
    rename_i h1
    exact ⟨h1, _, rfl, h⟩
  | arr n t =>
    obtain ⟨h1, h⟩ := ifK_inv h
    obtain ⟨h2, h⟩ := ifK_inv h
    have h1 : o + lenN vs ≤ n := Nat.le_of_ble_eq_true h1
    have h2 : n ≤ 32768 := Nat.le_of_ble_eq_true h2
    rw [lenN_eq] at h1
    obtain ⟨t', g1, g2⟩ := putsK_eq vs o t (by omega)
    rw [g1] at h
    refine ⟨by simpa [FObj.list] using h1, _, ?_, h⟩
    simp only [FObj.list]
    apply List.ext_getElem?
    intro j
    unfold splice
    by_cases hj : j < n
    · rw [List.getElem?_map, List.getElem?_range hj, Option.map_some, g2 j (by omega)]
      by_cases h3 : o ≤ j
      · rw [if_pos h3, List.getElem?_append_right (by simp; omega)]
        simp only [List.length_take, List.length_map, List.length_range]
        rw [Nat.min_eq_left (by omega)]
        by_cases h4 : j - o < vs.length
        · rw [List.getElem?_append_left h4, List.getElem?_eq_getElem h4]
        · rw [List.getElem?_append_right (by omega), List.getElem?_eq_none (by omega), List.getElem?_drop]
          have : o + vs.length + (j - o - vs.length) = j := by omega
          rw [this, List.getElem?_map, List.getElem?_range hj]; rfl
      · rw [if_neg h3, List.getElem?_append_left (by simp; omega), List.getElem?_take, if_pos (by omega), List.getElem?_map, List.getElem?_range hj]; rfl
    · rw [List.getElem?_eq_none (by simp; omega), List.getElem?_eq_none (by simp; omega)]

/-- Cells at a block's end. -/
noncomputable def FObj.emptyArr : R3 AV := E32.all (E32.all (E32.all undefA))
noncomputable def arrOf (vs : List AV) (k : FObj → R) (z : R) : R := ifK (Nat.ble (lenN vs) 32768) (putsK vs 0 FObj.emptyArr fun t => natK (lenN vs) fun n => k (.arr n t)) z
theorem arrOf_inv {vs : List AV} {k : FObj → Bool} (h : arrOf vs k false = true) : ∃ y : FObj, y.list = vs ∧ k y = true := by
  obtain ⟨h1, h⟩ := ifK_inv h
  have h1 : lenN vs ≤ 32768 := Nat.le_of_ble_eq_true h1
  rw [lenN_eq] at h1
  obtain ⟨t', g1, g2⟩ := putsK_eq vs 0 FObj.emptyArr (by omega)
  rw [g1, natK_eq, lenN_eq] at h
  refine ⟨_, ?_, h⟩
  simp only [FObj.list]
  apply List.ext_getElem?
  intro j
  by_cases hj : j < vs.length
  · rw [List.getElem?_map, List.getElem?_range hj, Option.map_some, g2 j (by omega), if_pos (Nat.zero_le _), Nat.sub_zero, List.getElem?_eq_getElem hj]
  · rw [List.getElem?_eq_none (by simp; omega), List.getElem?_eq_none (by omega)]
noncomputable def FObj.app (x : FObj) (vs : List AV) (k : FObj → R) (z : R) : R :=
  FObj.rec (motive := fun _ => R) (fun cs => appK cs vs fun l => arrOf l k z) (fun n t => ifK (Nat.ble (Nat.add n (lenN vs)) 32768) (putsK vs n t fun t => natK (Nat.add n (lenN vs)) fun m => k (.arr m t)) z) x
theorem FObj.app_inv {x : FObj} {vs : List AV} {k : FObj → Bool} (h : x.app vs k false = true) : ∃ y : FObj, y.list = x.list ++ vs ∧ k y = true := by
  cases x with
  | lst cs =>
    have h : appK cs vs (fun l => arrOf l k false) = true := h
    rw [appK_eq] at h
    exact arrOf_inv h
  | arr n t =>
    obtain ⟨h1, h⟩ := ifK_inv h
    have h1 : n + lenN vs ≤ 32768 := Nat.le_of_ble_eq_true h1
    rw [lenN_eq] at h1
    obtain ⟨t', g1, g2⟩ := putsK_eq vs n t (by omega)
    rw [g1, natK_eq, lenN_eq] at h
    refine ⟨_, ?_, h⟩
    simp only [FObj.list]
    apply List.ext_getElem?
    intro j
    have e : Nat.add n vs.length = n + vs.length := rfl
    rw [e]
    by_cases hj : j < n + vs.length
    · rw [List.getElem?_map, List.getElem?_range hj, Option.map_some, g2 j (by omega)]
      by_cases h3 : n ≤ j
      · rw [if_pos h3, List.getElem?_append_right (by simp; omega)]
        simp only [List.length_map, List.length_range]
        rw [List.getElem?_eq_getElem (by omega)]
      · rw [if_neg h3, List.getElem?_append_left (by simp; omega), List.getElem?_map, List.getElem?_range (by omega)]; rfl
    · rw [List.getElem?_eq_none (by simp; omega), List.getElem?_eq_none (by simp; omega)]

/-! ### the heap -/

abbrev HT := E32 (R3 (Option FObj))
structure FH where
  next : Nat
  t : HT
noncomputable def HT.get (i : Nat) (t : HT) : Option FObj := R3.get (Nat.mod i 32768) ((P32.of (Nat.div i 32768)).get t)
noncomputable def HT.set (i : Nat) (x : Option FObj) (t : HT) : HT := (P32.of (i / 32768)).set (R3.set (i % 32768) x ((P32.of (i / 32768)).get t)) t
noncomputable def HT.put (i : Nat) (x : Option FObj) (t : HT) (k : HT → R) : R := R3.put (Nat.mod i 32768) x ((P32.of (Nat.div i 32768)).get t) fun e => (P32.of (Nat.div i 32768)).put e t k
theorem HT.put_eq (i : Nat) (x : Option FObj) (t : HT) (k : HT → R) : HT.put i x t k = k (HT.set i x t) := by
  unfold HT.put HT.set
  rw [R3.put_eq, P32.put_eq]; rfl
theorem HT.get_set (i j : Nat) (x : Option FObj) (t : HT) (hi : i < 1048576) (hj : j < 1048576) : HT.get j (HT.set i x t) = if j = i then x else HT.get j t := by
  have e : ∀ n (t : HT), HT.get n t = R3.get (n % 32768) ((P32.of (n / 32768)).get t) := fun _ _ => rfl
  rw [e, e]
  unfold HT.set
  rw [P32.get_set]
  by_cases h : j = i
  · subst h; rw [if_pos rfl, if_pos rfl, R3.get_set _ _ _ _ (by omega) (by omega), if_pos rfl]
  · rw [if_neg h]
    by_cases h2 : P32.of (j / 32768) = P32.of (i / 32768)
    · have g2 := P32.of_inj (by omega) (by omega) h2
      rw [if_pos h2, R3.get_set _ _ _ _ (by omega) (by omega), if_neg (by omega), h2]
    · rw [if_neg h2]

noncomputable def FH.abs (H : FH) : AHeap := { next := H.next, get := fun i => if i < 1048576 then (HT.get i H.t).map FObj.abs else none }
def FH.empty : FH := ⟨0, E32.all (E32.all (E32.all (E32.all none)))⟩
theorem FH.abs_empty : FH.empty.abs = AHeap.empty 0 := by
  refine AHeap.ext' rfl fun i => ?_
  have : HT.get i FH.empty.t = none := by
    show R3.get (i % 32768) ((P32.of (i / 32768)).get (E32.all (E32.all (E32.all (E32.all none))))) = none
    rw [P32.get_all, R3.get_all]
  show (if i < 1048576 then (HT.get i FH.empty.t).map FObj.abs else none) = none
  rw [this]
  split <;> rfl
theorem FH.abs_set (H : FH) (i n : Nat) (x : Option FObj) (hi : i < 1048576) (j : Nat) : (FH.abs ⟨n, HT.set i x H.t⟩).get j = if j = i then x.map FObj.abs else H.abs.get j := by
  show (if j < 1048576 then (HT.get j (HT.set i x H.t)).map FObj.abs else none) = if j = i then x.map FObj.abs else (if j < 1048576 then (HT.get j H.t).map FObj.abs else none)
  by_cases hj : j < 1048576
  · rw [if_pos hj, if_pos hj, HT.get_set i j _ _ hi hj]
    by_cases e : j = i
    · rw [if_pos e, if_pos e]
    · rw [if_neg e, if_neg e]
  · rw [if_neg hj, if_neg hj, if_neg (by omega)]

noncomputable def FH.atK (H : FH) (i : Nat) (k : FObj → R) (z : R) : R := ifK (Nat.blt i 1048576) (Option.rec (motive := fun _ => R) z k (HT.get i H.t)) z
theorem FH.atK_inv {H : FH} {i : Nat} {k : FObj → Bool} (h : H.atK i k false = true) : ∃ x : FObj, H.abs.get i = some x.abs ∧ k x = true ∧ i < 1048576 := by
  obtain ⟨h1, h⟩ := ifK_inv h
  have h1 : i < 1048576 := Nat.le_of_ble_eq_true h1
  have e : H.abs.get i = (HT.get i H.t).map FObj.abs := by show (if i < 1048576 then _ else none) = _; rw [if_pos h1]
  cases hg : HT.get i H.t with
  | none => rw [hg] at h; simp at h
  | some x => rw [hg] at h e; exact ⟨x, e, h, h1⟩
noncomputable def FH.putK (H : FH) (i : Nat) (x : FObj) (k : FH → R) : R := HT.put i (some x) H.t fun t => k ⟨H.next, t⟩
theorem FH.putK_inv {H : FH} {i : Nat} {x : FObj} {k : FH → Bool} (hi : i < 1048576) (h : H.putK i x k = true) : ∃ H' : FH, H'.abs = H.abs.set i x.abs ∧ k H' = true := by
  unfold FH.putK at h
  rw [HT.put_eq] at h
  refine ⟨⟨H.next, HT.set i (some x) H.t⟩, AHeap.ext' rfl fun j => ?_, h⟩
  rw [FH.abs_set H i _ _ hi]; rfl
noncomputable def FH.newK (H : FH) (x : FObj) (k : Nat → FH → R) (z : R) : R := natK H.next fun n => ifK (Nat.blt n 1048576) (HT.put n (some x) H.t fun t => k n ⟨Nat.succ n, t⟩) z
theorem FH.newK_inv {H : FH} {x : FObj} {k : Nat → FH → Bool} (h : H.newK x k false = true) : ∃ H' : FH, H'.abs = H.abs.push x.abs ∧ k H.next H' = true := by
  unfold FH.newK at h
  rw [natK_eq] at h
  obtain ⟨h1, h⟩ := ifK_inv h
  have h1 : H.next < 1048576 := Nat.le_of_ble_eq_true h1
  rw [HT.put_eq] at h
  refine ⟨_, AHeap.ext' rfl fun j => ?_, h⟩
  rw [FH.abs_set H H.next _ _ h1]; rfl
noncomputable def FH.moveK (H : FH) (i : Nat) (x : FObj) (k : Nat → FH → R) (z : R) : R := ifK (Nat.blt i 1048576) (HT.put i none H.t fun t => FH.newK ⟨H.next, t⟩ x k z) z
theorem FH.moveK_inv {H : FH} {i : Nat} {x : FObj} {k : Nat → FH → Bool} (h : H.moveK i x k false = true) : ∃ H' : FH, H'.abs = (H.abs.kill i).push x.abs ∧ k H.next H' = true := by
  obtain ⟨h1, h⟩ := ifK_inv h
  have h1 : i < 1048576 := Nat.le_of_ble_eq_true h1
  rw [HT.put_eq] at h
  obtain ⟨H', g1, g2⟩ := FH.newK_inv h
  refine ⟨H', ?_, g2⟩
  rw [g1]
  congr 1
  refine AHeap.ext' rfl fun j => ?_
  rw [FH.abs_set H i _ _ h1]; rfl
end
end Go.Abs
