/-
  Own library of this claim, part 4: texts one behind the other (Base, KlB, LxK, FrA, FrB, FrD, FrS, FlA, FrP, FrW, ShQ, FrX, AbsZ, Facts, LxW1, AbsV, LxW2, ScI, ScJ, ScK, ScL, ScM, LxW3, LxW4, LxW5, LxW6, LxW7, LxW8, LxE, LxO, SyB, SyO, SyG, SkA, FlB).
-/
import Derived.Test.YtajcehcdmbfhaaaGreatDoorRows
import Derived.ProofKit
import Derived.Laws.LoneSync
import Derived.Test.YtajcehcdmbfhaaaGreatDoorProg
import Derived.Tactics
import Derived.Tactics2
import Derived.Defers
import Derived.Laws.Pointers
import Derived.RegionTactic
import Derived.RegionCalls
import Derived.ChangeAlike
import Derived.Shelf.Strings.Repeat
import Derived.Shelf.Strconv.Itoa4
import Derived.Ground.NamesProg
import Derived.Lib.Agree
import Derived.IntWalk
import Derived.KernelRfl
import Derived.Test.YtajcehcdmbfhaaaGreatDoorLibC
set_option linter.unusedVariables false
set_option linter.unusedSimpArgs false

/-
  This seat's own ground: the listed variables as abstract values; the library's functions that are known by their contracts.
-/





namespace Go.Proofs.YtajcehcdmbfhaaaGreatDoor
open Go Go.Abs Go.RowKit

noncomputable def named : String → Option TypeId := fun s => if s = "*errors.errorString" then some 614 else none
theorem named_one (name : String) (u u' : TypeId) (h : named name = some u) (h' : Tryz.prog.typeName? 3 u' = some name) : u' = u := by
  unfold named at h
  split at h <;> try (simp at h; done)
  rename_i e; subst e
  simp only [Option.some.injEq] at h; subst h
  exact typeName_ptr_named (nm := "errors.errorString") (by kernel_rfl) (by kernel_rfl) (by decide) u' h'
def seatLaid : List (String × DataW Unit) := [("unicode/utf8.first", Rows.laid_unicode_utf8_first), ("unicode/utf8.acceptRanges", Rows.laid_unicode_utf8_acceptRanges), ("strconv.ErrSyntax", Rows.laid_strconv_ErrSyntax), ("strconv.ErrRange", Rows.laid_strconv_ErrRange), ("internal/strconv.uint64pow10", Rows.laid_internal_strconv_uint64pow10), ("math/bits.deBruijn32tab", Rows.laid_math_bits_deBruijn32tab), ("math/bits.deBruijn64tab", Rows.laid_math_bits_deBruijn64tab)]
noncomputable def tab : List (Nat × List AV) := (laidTab Tryz.prog named 8 seatLaid).getD []
theorem tab_ok : (laidTab Tryz.prog named 8 seatLaid).isSome = true := by kernel_rfl
theorem laid_start {w : World} (h : laidMet Tryz.prog seatLaid w) : GRel (Env.start w) (Gof tab) := laid_met named_one tab_ok h
theorem idx380 : IsIdx Tryz.prog 380 := ⟨⟨Tryz.f380, Tryz.func380, by kernel_rfl, by kernel_rfl, by kernel_rfl, by kernel_rfl⟩⟩
noncomputable def known : Ov := ovAdd 95 (grOv 54 5) (ovAdd 15 (stOv 5) (ovAdd 13 (wsOv 54 5) (ovAdd 456 copyOv (ovAdd 380 idxOv (noOv)))))
theorem known_good (G : Nat → Option AV) : OvGoodK Tryz.prog G known := (ovAdd_good (grOv_good isCheck isGrow) (ovAdd_good (stOv_good isString) (ovAdd_good (wsOv_good isCheck isWrite) (ovAdd_good (copyOv_good isCopy) (ovAdd_good (idxOv_good idx380) (noOv_good _ _))))))
end Go.Proofs.YtajcehcdmbfhaaaGreatDoor

/-
  From a walk over abstract arguments to a law's statement.
-/

namespace Go.Abs
open Go Go.RowKit Go.WideShapes Go.ChangeShapes

section
variable {H : Type} {enc : TypeId × Value → H} {P : Program}

theorem Olds.stays (hl : laidOutB P = true) {W W' : World} (hb : Olds W W') (sp : Nat → Bool) : ∀ {ts : List TypeId} {vs : List Value} {ds : List (DataW H)} {ps : List MemPlace}, (∀ t ∈ ts, P.readableRec t = true ∧ t < P.types.size) →
    DataW.TrodAll enc P W 0 (fun _ => true) true ts vs ds ps → (∀ x ∈ ps, x.block < W.heap.size ∧ sp x.block = true) → DataW.TrodAll enc P W' 0 sp true ts vs ds ps
  | [], [], [], ps, _, h, _ => h
  | t :: ts, v :: vs, d :: ds, ps, ht, h, hp => by
    obtain ⟨p, q, h1, h2, rfl⟩ := h
    obtain ⟨hr, hrow⟩ := ht t (by simp)
    refine ⟨p, q, ?_, Olds.stays hl hb sp (fun t ht' => ht t (by simp [ht'])) h2 (fun x hx => hp x (by simp [hx])), rfl⟩
    exact WideElems.Trod_stays hl hr hrow h1 (fun x hx => hb.same (hp x (by simp [hx])).1) (fun x hx => (hp x (by simp [hx])).2)
  | [], [], _ :: _, _, _, h, _ => h.elim
  | [], _ :: _, _, _, _, h, _ => by cases h
  | _ :: _, [], _, _, _, h, _ => by cases h
  | _ :: _, _ :: _, [], _, _, h, _ => by cases h

/-- An argument of plain data. -/
theorem open_arg {n : Nat} {t : TypeId} {v : Value} {d : DataW H} {ps : List MemPlace} {W : World} {base : Nat} (ht : plainTy P n t = true) (hs : (match P.underlying t with | some (.struct _) => false | _ => true) = true)
    (hv : Value.okWide P W .any base t v) (h : DataW.Trod enc P W 0 (fun _ => true) true t v d ps) : ∃ a, VRel (Env.start W) a v ∧ Shp P n t [a] := by
  obtain ⟨fuel, h⟩ := h
  obtain ⟨as_, h1, h2⟩ := open_plain ht h
  have hc : v.cells = #[v] := by
    unfold Value.okWide at hv
    have h0 := ht
    cases n with
    | zero => simp [plainTy] at ht
    | succ n =>
      unfold plainTy at ht
      split at ht <;> rename_i hu <;> first
        | (rw [hu] at hs; simp at hs; done)
        | (simp at ht; done)
        | (rw [hu] at hv
           simp only [Cell.okWide, hu] at hv
           cases v <;> first | rfl | (simp [Cell.ok, hu] at hv; done))
  rw [hc] at h1
  cases h1 with | cons h t => cases t; exact ⟨_, h, h2⟩
end
end Go.Abs

/-
  A text cut into words, for the evaluator: forced step by step.
-/



namespace Go.Lex
open Go.Abs

noncomputable def blankN (n : Nat) : Bool := ifK (Nat.beq n 32) true (ifK (Nat.beq n 9) true (ifK (Nat.beq n 10) true (Nat.beq n 13)))
noncomputable def letterN (n : Nat) : Bool := ifK (Nat.ble 97 n) (Nat.ble n 122) false
noncomputable def digitN (n : Nat) : Bool := ifK (Nat.ble 48 n) (Nat.ble n 57) false
noncomputable def namecN (n : Nat) : Bool := ifK (letterN n) true (ifK (digitN n) true (Nat.beq n 95))

theorem ifK_if {R : Type} (b : Bool) (x y : R) : ifK b x y = if b = true then x else y := by cases b <;> rfl
theorem beq_toNat (b : UInt8) (n : UInt8) : Nat.beq b.toNat n.toNat = (b == n) := by
  rw [Bool.eq_iff_iff, Nat.beq_eq, beq_iff_eq, UInt8.toNat_inj]
theorem blankN_eq (b : UInt8) : blankN b.toNat = isBlank b := by
  have h1 := beq_toNat b 32
  have h2 := beq_toNat b 9
  have h3 := beq_toNat b 10
  have h4 := beq_toNat b 13
  have e1 : (32 : UInt8).toNat = 32 := rfl
  have e2 : (9 : UInt8).toNat = 9 := rfl
  have e3 : (10 : UInt8).toNat = 10 := rfl
  have e4 : (13 : UInt8).toNat = 13 := rfl
  rw [e1] at h1; rw [e2] at h2; rw [e3] at h3; rw [e4] at h4
  simp only [blankN, ifK_if, h1, h2, h3, h4, isBlank]
  cases b == 32 <;> cases b == 9 <;> cases b == 10 <;> cases b == 13 <;> rfl
theorem letterN_eq (b : UInt8) : letterN b.toNat = isLetter b := by
  simp only [letterN, ifK_if, isLetter, Nat.ble_eq]
  by_cases h : 97 ≤ b.toNat
  · rw [if_pos h, decide_eq_true h, Bool.true_and, Bool.eq_iff_iff, Nat.ble_eq, decide_eq_true_eq]
  · rw [if_neg h, decide_eq_false h, Bool.false_and]
theorem digitN_eq (b : UInt8) : digitN b.toNat = isDigit b := by
  simp only [digitN, ifK_if, isDigit, Nat.ble_eq]
  by_cases h : 48 ≤ b.toNat
  · rw [if_pos h, decide_eq_true h, Bool.true_and, Bool.eq_iff_iff, Nat.ble_eq, decide_eq_true_eq]
  · rw [if_neg h, decide_eq_false h, Bool.false_and]
theorem namecN_eq (b : UInt8) : namecN b.toNat = isNamec b := by
  have h1 := beq_toNat b 95
  have e1 : (95 : UInt8).toNat = 95 := rfl
  rw [e1] at h1
  simp only [namecN, ifK_if, letterN_eq, digitN_eq, isNamec, h1]
  cases isLetter b <;> cases isDigit b <;> rfl

/-- Bytes, forced. -/
noncomputable def frcA (l : Bs) : Bs → (Bs → Bool) → Bool := List.rec (motive := fun _ => Bs → (Bs → Bool) → Bool) (fun m k => revK m [] k) (fun b _ ih m k => natK b.toNat fun n => stepK (ih (UInt8.ofNat n :: m) k)) l
theorem frcA_eq : ∀ (l m : Bs) (k : Bs → Bool), frcA l m k = k (m.reverse ++ l)
  | [], m, k => by
    have e : frcA [] m k = revK m [] k := rfl
    rw [e, revK_eq]
  | b :: l, m, k => by
    have e : frcA (b :: l) m k = natK b.toNat fun n => frcA l (UInt8.ofNat n :: m) k := rfl
    rw [e, natK_eq, frcA_eq l]; simp

noncomputable def is45 (l : Bs) : Bool := List.rec (motive := fun _ => Bool) false (fun b _ _ => Nat.beq b.toNat 45) l
/-- Behind blanks and remarks (m: in a remark). -/
noncomputable def skK (l : Bs) : Bool → (Bs → Bool) → Bool := List.rec (motive := fun _ => Bool → (Bs → Bool) → Bool) (fun _ k => k [])
  (fun b l ih m k => natK b.toNat fun n => ifK m (ifK (Nat.beq n 10) (stepK (ih false k)) (stepK (ih true k)))
    (ifK (blankN n) (stepK (ih false k)) (ifK (Nat.beq n 45) (ifK (is45 l) (stepK (ih true k)) (k (b :: l))) (k (b :: l))))) l
theorem skK_eq : ∀ (l : Bs) (m : Bool) (k : Bs → Bool), skK l m k = k (betw (if m then l.dropWhile (fun b => b != 10) else l))
  | [], m, k => by
    have e : skK [] m k = k [] := rfl
    rw [e]; cases m <;> simp [betw_nil']
  | b :: l, m, k => by
    have e : skK (b :: l) m k = natK b.toNat fun n => ifK m (ifK (Nat.beq n 10) (skK l false k) (skK l true k))
      (ifK (blankN n) (skK l false k) (ifK (Nat.beq n 45) (ifK (is45 l) (skK l true k) (k (b :: l))) (k (b :: l)))) := rfl
    have h10 := beq_toNat b 10
    have h45 := beq_toNat b 45
    have e1 : (10 : UInt8).toNat = 10 := rfl
    have e2 : (45 : UInt8).toNat = 45 := rfl
    rw [e1] at h10; rw [e2] at h45
    rw [e, natK_eq, h10, blankN_eq, h45, skK_eq l, skK_eq l]
    cases m with
    | true =>
      simp only [ifK_if, if_true]
      by_cases hb : b = 10
      · subst hb
        simp only [beq_self_eq_true, if_true, Bool.false_eq_true, if_false]
        rw [List.dropWhile_cons]
        simp only [bne_self_eq_false, Bool.false_eq_true, if_false]
        rw [betw_blank (by decide)]
      · have h1 : (b == 10) = false := by simpa using hb
        have h2 : (b != 10) = true := by simpa using hb
        simp only [h1, Bool.false_eq_true, if_false, if_true]
        rw [List.dropWhile_cons, h2, if_pos rfl]
    | false =>
      simp only [ifK_if, Bool.false_eq_true, if_false, if_true]
      cases hb : isBlank b with
      | true => simp only [if_true]; rw [betw_blank hb]
      | false =>
        simp only [Bool.false_eq_true, if_false]
        by_cases h4 : b = 45
        · subst h4
          simp only [beq_self_eq_true, if_true]
          cases l with
          | nil =>
            have : is45 [] = false := rfl
            rw [this]
            simp only [Bool.false_eq_true, if_false]
            rw [betw_here hb (by simp)]
          | cons c q =>
            have hc : is45 (c :: q) = (c == 45) := by
              have := beq_toNat c 45
              rw [e2] at this
              exact this
            rw [hc]
            by_cases hc4 : c = 45
            · subst hc4
              simp only [beq_self_eq_true, if_true]
              rw [betw_rem, List.dropWhile_cons]
              simp
            · have : (c == 45) = false := by simpa using hc4
              rw [this]
              simp only [Bool.false_eq_true, if_false]
              rw [betw_here hb (by intro q h; simp at h; exact hc4 h.1)]
        · have : (b == 45) = false := by simpa using h4
          rw [this]
          simp only [Bool.false_eq_true, if_false]
          rw [betw_here hb (by intro q h; simp at h; exact h4 h.1)]

/-- The bytes of one sort that stand ahead, and the rest. -/
noncomputable def spK (p : Nat → Bool) (l : Bs) : Bs → (Bs → Bs → Bool) → Bool := List.rec (motive := fun _ => Bs → (Bs → Bs → Bool) → Bool) (fun m k => revK m [] fun t => k t [])
  (fun b l ih m k => natK b.toNat fun n => ifK (p n) (stepK (ih (b :: m) k)) (revK m [] fun t => k t (b :: l))) l
theorem spK_eq {p : Nat → Bool} {q : UInt8 → Bool} (h : ∀ b, p b.toNat = q b) : ∀ (l m : Bs) (k : Bs → Bs → Bool), spK p l m k = k (m.reverse ++ l.takeWhile q) (l.drop (l.takeWhile q).length)
  | [], m, k => by
    have e : spK p [] m k = revK m [] fun t => k t [] := rfl
    rw [e, revK_eq]; simp
  | b :: l, m, k => by
    have e : spK p (b :: l) m k = natK b.toNat fun n => ifK (p n) (spK p l (b :: m) k) (revK m [] fun t => k t (b :: l)) := rfl
    rw [e, natK_eq, h, spK_eq h l, revK_eq, List.takeWhile_cons]
    cases q b <;> simp

noncomputable def eqN (w : List Nat) : Bs → Bool := List.rec (motive := fun _ => Bs → Bool) (fun s => nilB s) (fun x _ ih s => List.rec (motive := fun _ => Bool) false (fun b r _ => ifK (Nat.beq b.toNat x) (ih r) false) s) w
theorem eqN_eq : ∀ (w : List Nat) (s : Bs), eqN w s = true ↔ s.map (·.toNat) = w
  | [], s => by
    have e : eqN [] s = nilB s := rfl
    rw [e, nilB_eq]; cases s <;> simp
  | x :: w, [] => by
    have e : eqN (x :: w) [] = false := rfl
    rw [e]; simp
  | x :: w, b :: s => by
    have e : eqN (x :: w) (b :: s) = ifK (Nat.beq b.toNat x) (eqN w s) false := rfl
    rw [e, ifK_if]
    by_cases h : b.toNat = x
    · have : Nat.beq b.toNat x = true := by rw [Nat.beq_eq]; exact h
      rw [if_pos this, eqN_eq w s]; simp [h]
    · have : ¬ Nat.beq b.toNat x = true := by rw [Nat.beq_eq]; exact h
      rw [if_neg this]; simp [h]
noncomputable def anyN (ws : List (List Nat)) (s : Bs) : Bool := List.rec (motive := fun _ => Bool) false (fun w _ ih => ifK (eqN w s) true ih) ws
theorem anyN_eq (s : Bs) : ∀ ws : List (List Nat), anyN ws s = true ↔ s.map (·.toNat) ∈ ws
  | [] => by simp [anyN]
  | w :: ws => by
    have e : anyN (w :: ws) s = ifK (eqN w s) true (anyN ws s) := rfl
    rw [e, ifK_if]
    by_cases h : eqN w s = true
    · rw [if_pos h]; simp [(eqN_eq w s).1 h]
    · rw [if_neg h, anyN_eq s ws]
      have : ¬ s.map (·.toNat) = w := fun e => h ((eqN_eq w s).2 e)
      simp [this]

def keptN : List (List Nat) := [[110,111,100,101],[114,101,116,117,114,110,115],[118,97,114],[108,101,116],[116,101,108],[98,111,111,108],[105,110,116],[116,114,117,101],[102,97,108,115,101],[110,111,116],[97,110,100],[111,114],[120,111,114],[109,111,100],[105,102],[116,104,101,110],[101,108,115,101],[112,114,101],[102,98,121],[119,104,101,110],[109,101,114,103,101]]
theorem toNat_map_inj : ∀ {a b : Bs}, a.map (·.toNat) = b.map (·.toNat) → a = b
  | [], [], _ => rfl
  | [], _ :: _, h => by simp at h
  | _ :: _, [], h => by simp at h
  | x :: a, y :: b, h => by
    simp only [List.map_cons, List.cons.injEq] at h
    rw [UInt8.toNat_inj.1 h.1, toNat_map_inj h.2]
theorem keptN_eq (s : Bs) : anyN keptN s = kept s := by
  rw [Bool.eq_iff_iff, anyN_eq]
  have hk : keptN = keptWords.map (fun w => w.map (·.toNat)) := rfl
  unfold kept
  rw [hk, List.mem_map, List.contains_iff_mem]
  constructor
  · rintro ⟨w, hw, e⟩; rw [← toNat_map_inj e]; exact hw
  · intro h; exact ⟨s, h, rfl⟩

/-- Does a text begin so? What is behind it. -/
noncomputable def prN (w : List Nat) : Bs → (Bs → Bool) → Bool → Bool := List.rec (motive := fun _ => Bs → (Bs → Bool) → Bool → Bool) (fun s k _ => k s)
  (fun x _ ih s k z => List.rec (motive := fun _ => Bool) z (fun b r _ => ifK (Nat.beq b.toNat x) (ih r k z) z) s) w
theorem prN_eq : ∀ (w s : Bs) (k : Bs → Bool) (z : Bool), prN (w.map (·.toNat)) s k z = if w.isPrefixOf s then k (s.drop w.length) else z
  | [], s, k, z => by
    have e : prN (([] : Bs).map (·.toNat)) s k z = k s := rfl
    rw [e]; simp
  | x :: w, [], k, z => by
    have e : prN ((x :: w).map (·.toNat)) [] k z = z := rfl
    rw [e]; simp
  | x :: w, b :: s, k, z => by
    have e : prN ((x :: w).map (·.toNat)) (b :: s) k z = ifK (Nat.beq b.toNat x.toNat) (prN (w.map (·.toNat)) s k z) z := rfl
    rw [e, beq_toNat, prN_eq w s, ifK_if]
    by_cases h : b = x
    · subst h; simp
    · have h1 : (b == x) = false := by simpa using h
      have h2 : (x == b) = false := by simpa using fun e => h e.symm
      rw [h1]; simp [List.isPrefixOf, h2]
noncomputable def sgK (ws : List Bs) (s : Bs) (k : Bs → Bs → Bool) (z : Bool) : Bool := List.rec (motive := fun _ => Bool) z (fun w _ ih => prN (w.map (·.toNat)) s (fun r => k w r) ih) ws
theorem sgK_eq (s : Bs) (k : Bs → Bs → Bool) (z : Bool) : ∀ ws : List Bs, sgK ws s k z = match ws.find? fun x => x.isPrefixOf s with | some t => k t (s.drop t.length) | none => z
  | [] => rfl
  | w :: ws => by
    have e : sgK (w :: ws) s k z = prN (w.map (·.toNat)) s (fun r => k w r) (sgK ws s k z) := rfl
    rw [e, prN_eq, sgK_eq s k z ws, List.find?_cons]
    cases w.isPrefixOf s <;> rfl

noncomputable def numN (l : Bs) : Nat → Nat := List.rec (motive := fun _ => Nat → Nat) (fun n => n) (fun b _ ih n => natK (Nat.add (Nat.mul 10 n) (Nat.sub b.toNat 48)) fun n => ih n) l
theorem numN_eq : ∀ (l : Bs) (n : Nat), numN l n = l.foldl (fun n b => 10 * n + (b.toNat - 48)) n
  | [], n => rfl
  | b :: l, n => by
    have e : numN (b :: l) n = natK (10 * n + (b.toNat - 48)) fun n => numN l n := rfl
    rw [e, natK_eq, numN_eq l]; rfl

/-- A word: its kind, its text, its value, the rest. -/
noncomputable def wdK (s : Bs) (k : Nat → Bs → Nat → Bs → Bool) (z : Bool) : Bool :=
  List.rec (motive := fun _ => Bool) z (fun b _ _ => natK b.toNat fun n =>
    ifK (letterN n) (spK namecN s [] fun t r => ifK (anyN keptN t) (k 2 t 0 r) (ifK (Nat.ble (lenN t) 24) (k 1 t 0 r) z))
      (ifK (digitN n) (spK digitN s [] fun t r => natK (numN t 0) fun v => ifK (Nat.blt v 9223372036854775808) (ifK (Nat.beq (lenN t) 1) (k 3 t v r) (ifK (Nat.beq n 48) z (k 3 t v r))) z)
        (sgK signs s (fun t r => k 4 t 0 r) z))) s
theorem wdK_eq (s : Bs) (k : Nat → Bs → Nat → Bs → Bool) (z : Bool) : wdK s k z = match wordS s with | some w => k w.kind w.text w.n (s.drop w.text.length) | none => z := by
  cases s with
  | nil => rfl
  | cons b r =>
    have e : wdK (b :: r) k z = natK b.toNat fun n =>
      ifK (letterN n) (spK namecN (b :: r) [] fun t r => ifK (anyN keptN t) (k 2 t 0 r) (ifK (Nat.ble (lenN t) 24) (k 1 t 0 r) z))
      (ifK (digitN n) (spK digitN (b :: r) [] fun t r => natK (numN t 0) fun v => ifK (Nat.blt v 9223372036854775808) (ifK (Nat.beq (lenN t) 1) (k 3 t v r) (ifK (Nat.beq n 48) z (k 3 t v r))) z)
        (sgK signs (b :: r) (fun t r => k 4 t 0 r) z)) := rfl
    have h48 := beq_toNat b 48
    have e1 : (48 : UInt8).toNat = 48 := rfl
    rw [e1] at h48
    rw [e]
    simp only [natK_eq, letterN_eq, digitN_eq, spK_eq namecN_eq, spK_eq digitN_eq, keptN_eq, lenN_eq, numN_eq, sgK_eq, ifK_if, List.reverse_nil, List.nil_append, h48, wordS, signOf, numVal, Nat.ble_eq, Nat.beq_eq, Nat.blt_eq, beq_iff_eq]
    by_cases h1 : isLetter b = true
    · simp only [Bool.false_eq_true, h1, if_true]
      by_cases h2 : kept (List.takeWhile isNamec (b :: r)) = true
      · simp only [Bool.false_eq_true, h2, if_true]
      · simp only [Bool.false_eq_true, h2, if_false]
        by_cases h3 : (List.takeWhile isNamec (b :: r)).length ≤ 24
        · simp only [Bool.false_eq_true, h3, if_true]
        · simp only [Bool.false_eq_true, h3, if_false]
    · simp only [Bool.false_eq_true, h1, if_false]
      by_cases h2 : isDigit b = true
      · simp only [Bool.false_eq_true, h2, if_true]
        by_cases h3 : List.foldl (fun n b => 10 * n + (b.toNat - 48)) 0 (List.takeWhile isDigit (b :: r)) < 9223372036854775808
        · by_cases h4 : (List.takeWhile isDigit (b :: r)).length = 1
          · simp only [Bool.false_eq_true, h3, h4, if_true, true_or, and_self]
          · have e48 : (b.toNat = 48) ↔ b = 48 := by
              have := beq_toNat b 48
              rw [e1] at this
              rw [← Nat.beq_eq, this, beq_iff_eq]
            by_cases h5 : b = 48
            · have h6 := e48.2 h5
              have h7 : ¬ (List.foldl (fun n b => 10 * n + (b.toNat - 48)) 0 (List.takeWhile isDigit (b :: r)) < 9223372036854775808 ∧ ((List.takeWhile isDigit (b :: r)).length = 1 ∨ b ≠ 48)) := fun ⟨_, x⟩ => by
                rcases x with x | x
                · exact h4 x
                · exact x h5
              have h5' := eq_true h5
              have h6' := eq_true h6
              simp only [h3, h4, h5', h6', ne_eq, not_true_eq_false, if_true, if_false, or_self, and_false]
            · have h6 : ¬ b.toNat = 48 := fun e => h5 (e48.1 e)
              simp only [h3, h4, h5, h6, ne_eq, not_false_eq_true, if_true, if_false, or_true, and_self]
        · simp only [Bool.false_eq_true, h3, if_false, false_and]
      · simp only [Bool.false_eq_true, h2, if_false]
        cases List.find? (fun x => x.isPrefixOf (b :: r)) signs <;> rfl

/-- A text, cut. -/
noncomputable def ctK (n : Nat) (fuel : Nat) : Bs → List AV → Nat → (List AV → Nat → Bool) → (Nat → Bool) → Bool :=
  Nat.rec (motive := fun _ => Bs → List AV → Nat → (List AV → Nat → Bool) → (Nat → Bool) → Bool) (fun _ _ _ _ _ => false)
    (fun _ ih s m c k z => skK s false fun r => List.rec (motive := fun _ => Bool) (revK (.int .i64 (.ofNat n) :: .int .i64 (.ofNat 0) :: .str [] :: .int .i64 (.ofNat 0) :: m) [] fun cs => natK (Nat.succ c) fun c => k cs c)
      (fun _ _ _ => natK (Nat.sub n (lenN r)) fun at_ => wdK r (fun kd t v q => natK (Nat.succ c) fun c => stepK (ih q (.int .i64 (.ofNat at_) :: .int .i64 (.ofNat v) :: .str t :: .int .i64 (.ofNat kd) :: m) c k z)) (z at_)) r) fuel

def cellsW : List (Nat × Wd) → List AV
  | [] => []
  | (i, w) :: l => [.int .i64 w.kind, .str w.text, .int .i64 w.n, .int .i64 i] ++ cellsW l

theorem ctK_inv (n : Nat) : ∀ (fuel : Nat) (s : Bs) (m : List AV) (c : Nat) (k : List AV → Nat → Bool) (z : Nat → Bool), ctK n fuel s m c k z = true →
    (match cutS n s with
    | .ok l => k (m.reverse ++ cellsW l ++ [.int .i64 0, .str [], .int .i64 0, .int .i64 n]) (c + l.length + 1)
    | .error e => z e) = true
  | 0, s, m, c, k, z, h => by have h : false = true := h; simp at h
  | fuel + 1, s, m, c, k, z, h => by
    have h : (skK s false fun r => List.rec (motive := fun _ => Bool) (revK (.int .i64 (.ofNat n) :: .int .i64 (.ofNat 0) :: .str [] :: .int .i64 (.ofNat 0) :: m) [] fun cs => natK (Nat.succ c) fun c => k cs c)
      (fun _ _ _ => natK (Nat.sub n (lenN r)) fun at_ => wdK r (fun kd t v q => natK (Nat.succ c) fun c => ctK n fuel q (.int .i64 (.ofNat at_) :: .int .i64 (.ofNat v) :: .str t :: .int .i64 (.ofNat kd) :: m) c k z) (z at_)) r) = true := h
    rw [skK_eq] at h
    simp only [Bool.false_eq_true, if_false] at h
    cases hb : betw s with
    | nil =>
      rw [hb] at h
      simp only [revK_eq, natK_eq] at h
      rw [cutS_end hb]
      simpa [cellsW] using h
    | cons b r =>
      rw [hb] at h
      simp only [natK_eq, lenN_eq, wdK_eq] at h
      cases hw : wordS (b :: r) with
      | none =>
        rw [hw] at h
        rw [cutS_bad hb hw]
        exact h
      | some w =>
        rw [hw] at h
        rw [cutS_word hb hw]
        have ih := ctK_inv n fuel _ _ _ _ _ h
        revert ih
        cases cutS n ((b :: r).drop w.text.length) with
        | ok l =>
          intro ih
          have e : c + (((n - (b :: r).length, w) :: l).length) + 1 = c.succ + l.length + 1 := by simp; omega
          simp only [e]
          simpa [cellsW] using ih
        | error e => exact fun ih => ih

/-- Cut's answer. -/
noncomputable def cutOv (args : List AV) (H : FH) (k : AV → FH → Bool) : Bool :=
  oneKK args (fun a => a.onStr false fun s => natK (lenN s) fun n => ifK (Nat.ble n 140737488355328) (ifK (Nat.ble n 16384)
    (frcA s [] fun s => ctK n (Nat.succ n) s [] 0 (fun cs c => k (.tuple [.vsl cs c, .agg [.int .i64 (.ofNat 0), .int .i64 (.ofNat 0)]]) H) (fun e => k (.tuple [.nilsl, .agg [.int .i64 (.ofNat 7), .int .i64 (.ofNat e)]]) H))
    (k (.tuple [.nilsl, .agg [.int .i64 (.ofNat 2), .int .i64 (.ofNat n)]]) H)) false) false
def cutA (t : Bs) : AV := if 16384 < t.length then .tuple [.nilsl, .agg [.int .i64 2, .int .i64 t.length]] else match cutS t.length t with
  | .ok l => .tuple [.vsl (cellsW l ++ [.int .i64 0, .str [], .int .i64 0, .int .i64 t.length]) (l.length + 1), .agg [.int .i64 0, .int .i64 0]]
  | .error e => .tuple [.nilsl, .agg [.int .i64 7, .int .i64 e]]
theorem cutOv_inv {args : List AV} {H : FH} {k : AV → FH → Bool} (h : cutOv args H k = true) : ∃ s : Bs, args = [.str s] ∧ s.length ≤ 140737488355328 ∧ k (cutA s) H = true := by
  obtain ⟨a, rfl, h0⟩ := oneKK_inv h
  rcases AV.onStr_inv h0 with ⟨s, rfl, h1⟩ | ⟨h1, _⟩
  case inr => simp at h1
  clear h h0
  rw [natK_eq, lenN_eq] at h1
  obtain ⟨hb, h⟩ := ifK_inv h1
  clear h1
  have hb : s.length ≤ 140737488355328 := Nat.le_of_ble_eq_true hb
  refine ⟨s, rfl, hb, ?_⟩
  simp only [ifK_if, Nat.ble_eq] at h
  by_cases hl : s.length ≤ 16384
  · rw [if_pos hl, frcA_eq] at h
    have h1 := ctK_inv _ _ _ _ _ _ _ h
    simp only [List.reverse_nil, List.nil_append, Nat.zero_add] at h1
    unfold cutA
    rw [if_neg (by omega)]
    cases hc : cutS s.length s with
    | ok l => rw [hc] at h1; exact h1
    | error e => rw [hc] at h1; exact h1
  · rw [if_neg hl] at h
    unfold cutA
    rw [if_pos (by omega)]
    exact h
end Go.Lex

/-
  A call that leans on nothing of the heap leaves it all alone: contracts of closed calls hold beside whatever is there.
-/

namespace Go.Abs
open Go

/-- What is live is set aside. -/
noncomputable def Env.asideF (E : Env) (H : AHeap) (w : World) : Env := by
  classical
  exact { φ := fun _ => none, K := E.K, F := fun B => if (∃ i x p, H.get i = some x ∧ E.φ i = some p ∧ p.b = B) then w.heap[B]? else E.F B, os := E.os, out := E.out }

theorem aside_live {E : Env} {H : AHeap} {w : World} {B i : Nat} {x : AObj} {p : Place} (hi : H.get i = some x) (hp : E.φ i = some p) (hb : p.b = B) : (E.asideF H w).F B = w.heap[B]? := by
  unfold Env.asideF
  exact if_pos ⟨i, x, p, hi, hp, hb⟩
theorem aside_cases (E : Env) (H : AHeap) (w : World) (B : Nat) : (E.asideF H w).F B = E.F B ∨ (∃ i x p, H.get i = some x ∧ E.φ i = some p ∧ p.b = B) := by
  by_cases h : ∃ i x p, H.get i = some x ∧ E.φ i = some p ∧ p.b = B
  · exact .inr h
  · left; unfold Env.asideF; exact if_neg h

theorem Does.frame {P : Program} {G : Nat → Option AV} {f : FuncId} {args : List AV} {n : Nat} {R : AV → AHeap → Prop} (h : Does P G f args (AHeap.empty n) R) (ha : AV.allLt 0 args = true) (hG : ∀ g a, G g = some a → a.idLt 0 = true)
    (hr : ∀ r H1, R r H1 → r.idLt 0 = true) (H : AHeap) : Does P G f args H fun r h => (∃ H1, R r H1) ∧ h = H :=
  ⟨fun E w vs hR hG' hv => by
    have hlive : ∀ i x p, H.get i = some x → E.φ i = some p → E.K p.b = none ∧ E.F p.b = none ∧ ∃ ob, w.heap[p.b]? = some ob ∧ ORel E p x ob := fun i x p hi hp => by
      obtain ⟨q, ob, h1, h2, h3, h4, h5⟩ := hR.live i x hi
      rw [hp] at h1; cases h1
      exact ⟨h2, h3, ob, h4, h5⟩
    have hR0 : Rel (E.asideF H w) (AHeap.empty n) w := by
      refine ⟨hR.os, hR.out, hR.K, fun B o hB => ?_, fun B => ?_, fun i p hp => ?_, fun i x hi => ?_, fun i j x y p q hi => ?_⟩
      · rcases aside_cases E H w B with e | ⟨i, x, p, hi, hp, rfl⟩
        · rw [e] at hB; exact hR.F B o hB
        · rw [aside_live hi hp rfl] at hB; exact hB
      · rcases aside_cases E H w B with e | ⟨i, x, p, hi, hp, rfl⟩
        · rw [e]; exact hR.KF B
        · exact .inl (hlive i x p hi hp).1
      · have : (none : Option Place) = some p := hp
        simp at this
      · simp [AHeap.empty] at hi
      · simp [AHeap.empty] at hi
    have kn : Knows (E.cut 0) (E.asideF H w) := ⟨fun i p hp => by simp [Env.cut] at hp, fun _ _ h => h⟩
    refine (h.run _ w vs hR0 ((GRel.cut hG' hG).mono kn) ((VRels.cut hv ha).mono kn)).mono ?_
    rintro v w' ⟨r, H1, E1, g1, g2, g3, g4⟩
    have hKE : ∀ B o, E.K B = some o → E1.K B = some o := g2.K
    have hF1 : E1.F = (E.asideF H w).F := g2.F
    have hkn : Knows E { E with K := E1.K } := ⟨fun _ _ h => h, hKE⟩
    refine ⟨r, H, { E with K := E1.K }, ⟨⟨H1, g1⟩, rfl⟩, ⟨fun _ _ h => h, hKE, rfl, rfl, rfl⟩, ?_, ?_⟩
    · exact VRel.mono (E := E1.cut 0) (E' := { E with K := E1.K }) ⟨fun i p hp => by simp [Env.cut] at hp, fun _ _ h => h⟩ (VRel.cut g3 (hr r H1 g1))
    · refine ⟨g4.os.trans g2.os, g4.out.trans g2.out, g4.K, fun B o hB => ?_, fun B => ?_, hR.dom, fun i x hi => ?_, hR.inj⟩
      · refine g4.F B o ?_
        rw [hF1]
        rcases aside_cases E H w B with e | ⟨i, x, p, hi, hp, rfl⟩
        · rw [e]; exact hB
        · have h2 := (hlive i x p hi hp).2.1
          have hB : E.F p.b = some o := hB
          rw [h2] at hB; simp at hB
      · rcases g4.KF B with e | e
        · exact .inl e
        · rw [hF1] at e
          rcases aside_cases E H w B with e' | ⟨i, x, p, hi, hp, rfl⟩
          · rw [e'] at e; exact .inr e
          · exact .inr (hlive i x p hi hp).2.1
      · obtain ⟨p, ob, h1, h2, h3, h4, h5⟩ := hR.live i x hi
        have hF0 : E1.F p.b = some ob := by rw [hF1, aside_live hi h1 rfl]; exact h4
        refine ⟨p, ob, h1, ?_, h3, g4.F _ _ hF0, h5.mono hkn⟩
        rcases g4.KF p.b with e | e
        · exact e
        · rw [hF0] at e; simp at e⟩
end Go.Abs

/-
  What a closed call answers, frozen through and through: a literal.
-/


namespace Go.Abs
open Go

def optAll {α : Type} : List (Option α) → Option (List α)
  | [] => some []
  | none :: _ => none
  | some a :: l => (optAll l).map (a :: ·)

/-- A value with all that it leads to. -/
def AV.res (get : Nat → Option AObj) : Nat → AV → Option AV
  | 0, _ => none
  | n + 1, v => match v with
    | .ptr i o => match get i with
      | some (.cells cs) => (optAll ((cs.drop o).map (AV.res get n))).map .vptr
      | _ => none
    | .sl i o z len _ _ => match get i with
      | some (.cells cs) => (optAll (((cs.drop o).take (len * z)).map (AV.res get n))).map (.vsl · len)
      | _ => none
    | .vptr cs => (optAll (cs.map (AV.res get n))).map .vptr
    | .vsl cs len => (optAll (cs.map (AV.res get n))).map (.vsl · len)
    | .func f a b => match optAll (a.map (AV.res get n)), optAll (b.map (AV.res get n)) with
      | some a, some b => some (.func f a b)
      | _, _ => none
    | .iface t v => (AV.res get n v).map (.iface t)
    | .agg cs => (optAll (cs.map (AV.res get n))).map .agg
    | .tuple cs => (optAll (cs.map (AV.res get n))).map .tuple
    | .map _ => none
    | v => some v

/-- All that is there is frozen. -/
def Env.all (E : Env) (w : World) : Env := { E with K := fun B => match E.F B with | some _ => none | none => w.heap[B]? }

theorem all_ext {E : Env} {H : AHeap} {w : World} (hR : Rel E H w) : Ext E (E.all w) := by
  refine ⟨fun _ _ h => h, fun B o hB => ?_, rfl, rfl, rfl⟩
  have hF : E.F B = none := by
    rcases hR.KF B with e | e
    · rw [hB] at e; simp at e
    · exact e
  show (match E.F B with | some _ => none | none => w.heap[B]?) = some o
  rw [hF]; exact hR.K B o hB

theorem all_rel {E : Env} {H : AHeap} {w : World} (hR : Rel E H w) : Rel (E.all w) (AHeap.empty H.next) w := by
  refine ⟨hR.os, hR.out, fun B o hB => ?_, hR.F, fun B => ?_, hR.dom, fun i x hi => by simp [AHeap.empty] at hi, fun i j x y p q hi => by simp [AHeap.empty] at hi⟩
  · have hB : (match E.F B with | some _ => none | none => w.heap[B]?) = some o := hB
    split at hB
    · simp at hB
    · exact hB
  · cases hF : E.F B with
    | none => exact .inr hF
    | some o =>
      left
      show (match E.F B with | some _ => none | none => w.heap[B]?) = none
      rw [hF]

theorem live_ink {E : Env} {H : AHeap} {w : World} (hR : Rel E H w) {i : Nat} {cs : List AV} {p : Place} (hi : H.get i = some (.cells cs)) (hp : E.φ i = some p) (o : Nat) :
    ∃ vs, InK (E.all w) p.b (p.s + o) vs ∧ VRels E (cs.drop o) vs := by
  obtain ⟨q, ob, h1, h2, h3, h4, c, e, fz, vs, rfl, _, h6, h7, _⟩ := hR.live i _ hi
  rw [hp] at h1; cases h1
  refine ⟨vs.drop o, .inr ⟨c, e, fz, ?_, ?_⟩, h6.drop o⟩
  · show (match E.F p.b with | some _ => none | none => w.heap[p.b]?) = _
    rw [h3]; exact h4
  · obtain ⟨t, ht⟩ := h7
    rw [← List.drop_drop, ← ht]
    by_cases ho : o ≤ vs.length
    · rw [List.drop_append_of_le_length ho]; exact List.prefix_append _ _
    · rw [List.drop_of_length_le (by omega)]; exact List.nil_prefix

theorem res_list {E' : Env} {E : Env} {get : Nat → Option AObj} {n : Nat} (ih : ∀ v u r, VRel E v u → v.res get n = some r → VRel E' r u) : ∀ {vs us rs}, VRels E vs us → optAll (vs.map (AV.res get n)) = some rs → VRels E' rs us
  | [], us, rs, h, hr => by
    cases h
    simp [optAll] at hr; subst hr; exact .nil
  | v :: vs, us, rs, h, hr => by
    cases h with
    | cons h t =>
      simp only [List.map_cons] at hr
      cases hv : AV.res get n v with
      | none => rw [hv] at hr; simp [optAll] at hr
      | some a =>
        rw [hv] at hr
        simp only [optAll, Option.map_eq_some_iff] at hr
        obtain ⟨l, hl, rfl⟩ := hr
        exact .cons (ih _ _ _ h hv) (res_list ih t hl)

theorem VRel.res {E : Env} {H : AHeap} {w : World} (hR : Rel E H w) : ∀ (n : Nat) (v : AV) (u : Value) (r : AV), VRel E v u → v.res H.get n = some r → VRel (E.all w) r u
  | 0, v, u, r, _, hr => by simp [AV.res] at hr
  | n + 1, v, u, r, h, hr => by
    have ih := VRel.res hR n
    have hk := (all_ext hR).knows
    cases h with
    | bool b => simp [AV.res] at hr; subst hr; exact .bool b
    | int k m => simp [AV.res] at hr; subst hr; exact .int k m
    | str s => simp [AV.res] at hr; subst hr; exact .str s
    | nilptr => simp [AV.res] at hr; subst hr; exact .nilptr
    | nilsl => simp [AV.res] at hr; subst hr; exact .nilsl
    | nilmap => simp [AV.res] at hr; subst hr; exact .nilmap
    | nilfunc => simp [AV.res] at hr; subst hr; exact .nilfunc
    | niliface => simp [AV.res] at hr; subst hr; exact .niliface
    | map h => simp [AV.res] at hr
    | csl hK hv => simp [AV.res] at hr; subst hr; exact .csl (hK.mono hk) (VRels.mono hk hv)
    | vsl0 => simp [AV.res, optAll] at hr; subst hr; exact .vsl0
    | @ptr i o p h =>
      simp only [AV.res] at hr
      split at hr <;> try (simp at hr; done)
      rename_i cs hi
      simp only [Option.map_eq_some_iff] at hr
      obtain ⟨rs, hr, rfl⟩ := hr
      obtain ⟨vs, h1, h2⟩ := live_ink hR hi h o
      exact .vptr h1 (res_list ih h2 hr)
    | @sl i o z len cap c' opn p h hl hc ho hn =>
      simp only [AV.res] at hr
      split at hr <;> try (simp at hr; done)
      rename_i cs hi
      simp only [Option.map_eq_some_iff] at hr
      obtain ⟨rs, hr, rfl⟩ := hr
      obtain ⟨vs, h1, h2⟩ := live_ink hR hi h o
      refine .vsl (vs := vs.take (len * z)) ?_ (res_list ih (h2.take _) hr) (Nat.le_trans hl hc)
      rcases h1 with h1 | ⟨c, e, f, g1, g2⟩
      · left; rw [h1]; simp
      · exact .inr ⟨c, e, f, g1, (List.take_prefix _ _).trans g2⟩
    | vptr hK hv =>
      simp only [AV.res, Option.map_eq_some_iff] at hr
      obtain ⟨rs, hr, rfl⟩ := hr
      exact .vptr (hK.mono hk) (res_list ih hv hr)
    | vsl hK hv hl =>
      simp only [AV.res, Option.map_eq_some_iff] at hr
      obtain ⟨rs, hr, rfl⟩ := hr
      exact .vsl (hK.mono hk) (res_list ih hv hr) hl
    | func hf hc =>
      simp only [AV.res] at hr
      split at hr <;> try (simp at hr; done)
      rename_i a b ha hb
      simp only [Option.some.injEq] at hr; subst hr
      exact .func (res_list ih hf ha) (res_list ih hc hb)
    | iface h =>
      simp only [AV.res, Option.map_eq_some_iff] at hr
      obtain ⟨rs, hr, rfl⟩ := hr
      exact .iface (ih _ _ _ h hr)
    | agg h =>
      simp only [AV.res, Option.map_eq_some_iff] at hr
      obtain ⟨rs, hr, rfl⟩ := hr
      exact .agg (res_list ih h hr)
    | tuple h =>
      simp only [AV.res, Option.map_eq_some_iff] at hr
      obtain ⟨rs, hr, rfl⟩ := hr
      exact .tuple (res_list ih h hr)

theorem Ghost.res {n m : Nat} {v r : AV} {H : AHeap} (h : v.res H.get m = some r) : Ghost n v H r (AHeap.empty H.next) := fun _ _ _ _ _ hx hv hR => ⟨_, hx.trans (all_ext hR), VRel.res hR _ _ _ _ hv h, all_rel hR⟩

/-- A closed call answers a literal: said by the evaluator. -/
noncomputable def litK (lit : AV) (v : AV) (H : FH) : Bool := match v.res H.abs.get 1000 with
  | some r => r.beq lit
  | none => false

theorem lit_does {P : Program} {G : Nat → Option AV} {ov : Ov} {f : FuncId} {fuel n : Nat} {args : List AV} {lit : AV} (hm : P.follows .mixedOrders = true) (hp : plainFn P = true) (hov : OvGoodK P G ov) (hG : ∀ g a, G g = some a → a.idLt 0 = true)
    (ha : AV.allLt 0 args = true) (hl : lit.idLt 0 = true) (h : fcall ov P G fuel n f args FH.empty (litK lit) = true) (H : AHeap) : Does P G f args H fun r h => r = lit ∧ h = H := by
  obtain ⟨v, H', hd, _, hk⟩ := fcall_sound hm hp hov n f args FH.empty _ h
  rw [FH.abs_empty] at hd
  unfold litK at hk
  split at hk <;> try (simp at hk; done)
  rename_i r hr
  have hk := AV.beq_eq _ _ hk
  subst hk
  have h1 : Does P G f args (AHeap.empty 0) fun x _ => x = r := hd.ghost fun x h ⟨h1, h2⟩ => ⟨r, AHeap.empty H'.abs.next, by subst h1; subst h2; exact Ghost.res hr, rfl⟩
  exact (h1.frame ha hG (fun x _ hx => by rw [hx]; exact hl) H).mono fun x h ⟨⟨_, h2⟩, h3⟩ => ⟨h2, h3⟩

/-- What is known of some closed calls of one function. -/
noncomputable def litOv (tab : List (List AV × AV)) (args : List AV) (H : FH) (k : AV → FH → Bool) : Bool :=
  List.rec (motive := fun _ => Bool) false (fun e _ ih => ifK (AV.beqs e.1 args) (k e.2 H) ih) tab
theorem litOv_inv {args : List AV} {H : FH} {k : AV → FH → Bool} : ∀ {tab : List (List AV × AV)}, litOv tab args H k = true → ∃ e ∈ tab, e.1 = args ∧ k e.2 H = true
  | [], h => by have h : false = true := h; simp at h
  | e :: tab, h => by
    have h : ifK (AV.beqs e.1 args) (k e.2 H) (litOv tab args H k) = true := h
    cases hb : AV.beqs e.1 args with
    | true => rw [hb] at h; exact ⟨e, by simp, AV.beqs_eq _ _ hb, h⟩
    | false =>
      rw [hb] at h
      obtain ⟨e', h1, h2⟩ := litOv_inv (tab := tab) h
      exact ⟨e', by simp [h1], h2⟩
theorem litOv_good {P : Program} {G : Nat → Option AV} {f : FuncId} {tab : List (List AV × AV)} (ht : ∀ e ∈ tab, ∀ H, Does P G f e.1 H fun r h => r = e.2 ∧ h = H) (args : List AV) (H : FH) (k : AV → FH → Bool) (h : litOv tab args H k = true) :
    ∃ v H', Does P G f args H.abs (fun r h => r = v ∧ h = FH.abs H') ∧ H.next ≤ H'.next ∧ k v H' = true := by
  obtain ⟨e, h1, rfl, h3⟩ := litOv_inv h
  exact ⟨e.2, H, ht e h1 H.abs, Nat.le_refl _, h3⟩

end Go.Abs

/-
  A call whose arguments lead to live blocks, known by what they lead to: these are taken as frozen, and forgotten; all else stays.
-/

namespace Go.Abs
open Go

theorem VRel.resG {E E2 : Env} {get : Nat → Option AObj} (hk : Knows E E2) (hlv : ∀ i cs p, get i = some (.cells cs) → E.φ i = some p → ∀ o, ∃ vs, InK E2 p.b (p.s + o) vs ∧ VRels E (cs.drop o) vs) : ∀ (n : Nat) (v : AV) (u : Value) (r : AV), VRel E v u → v.res get n = some r → VRel E2 r u
  | 0, v, u, r, _, hr => by simp [AV.res] at hr
  | n + 1, v, u, r, h, hr => by
    have ih := VRel.resG hk hlv n
    cases h with
    | bool b => simp [AV.res] at hr; subst hr; exact .bool b
    | int k m => simp [AV.res] at hr; subst hr; exact .int k m
    | str s => simp [AV.res] at hr; subst hr; exact .str s
    | nilptr => simp [AV.res] at hr; subst hr; exact .nilptr
    | nilsl => simp [AV.res] at hr; subst hr; exact .nilsl
    | nilmap => simp [AV.res] at hr; subst hr; exact .nilmap
    | nilfunc => simp [AV.res] at hr; subst hr; exact .nilfunc
    | niliface => simp [AV.res] at hr; subst hr; exact .niliface
    | map h => simp [AV.res] at hr
    | csl hK hv => simp [AV.res] at hr; subst hr; exact .csl (hK.mono hk) (VRels.mono hk hv)
    | vsl0 => simp [AV.res, optAll] at hr; subst hr; exact .vsl0
    | @ptr i o p h =>
      simp only [AV.res] at hr
      split at hr <;> try (simp at hr; done)
      rename_i cs hi
      simp only [Option.map_eq_some_iff] at hr
      obtain ⟨rs, hr, rfl⟩ := hr
      obtain ⟨vs, h1, h2⟩ := hlv _ _ _ hi h o
      exact .vptr h1 (res_list ih h2 hr)
    | @sl i o z len cap c' opn p h hl hc ho hn =>
      simp only [AV.res] at hr
      split at hr <;> try (simp at hr; done)
      rename_i cs hi
      simp only [Option.map_eq_some_iff] at hr
      obtain ⟨rs, hr, rfl⟩ := hr
      obtain ⟨vs, h1, h2⟩ := hlv _ _ _ hi h o
      refine .vsl (vs := vs.take (len * z)) ?_ (res_list ih (h2.take _) hr) (Nat.le_trans hl hc)
      rcases h1 with h1 | ⟨c, e, f, g1, g2⟩
      · left; rw [h1]; simp
      · exact .inr ⟨c, e, f, g1, (List.take_prefix _ _).trans g2⟩
    | vptr hK hv =>
      simp only [AV.res, Option.map_eq_some_iff] at hr
      obtain ⟨rs, hr, rfl⟩ := hr
      exact .vptr (hK.mono hk) (res_list ih hv hr)
    | vsl hK hv hl =>
      simp only [AV.res, Option.map_eq_some_iff] at hr
      obtain ⟨rs, hr, rfl⟩ := hr
      exact .vsl (hK.mono hk) (res_list ih hv hr) hl
    | func hf hc =>
      simp only [AV.res] at hr
      split at hr <;> try (simp at hr; done)
      rename_i a b ha hb
      simp only [Option.some.injEq] at hr; subst hr
      exact .func (res_list ih hf ha) (res_list ih hc hb)
    | iface h =>
      simp only [AV.res, Option.map_eq_some_iff] at hr
      obtain ⟨rs, hr, rfl⟩ := hr
      exact .iface (ih _ _ _ h hr)
    | agg h =>
      simp only [AV.res, Option.map_eq_some_iff] at hr
      obtain ⟨rs, hr, rfl⟩ := hr
      exact .agg (res_list ih h hr)
    | tuple h =>
      simp only [AV.res, Option.map_eq_some_iff] at hr
      obtain ⟨rs, hr, rfl⟩ := hr
      exact .tuple (res_list ih h hr)


/-- All is frozen but what lies in a part of the heap. -/
noncomputable def Env.but (E : Env) (H2 : AHeap) (w : World) : Env := { E with K := fun B => match E.K B with
  | some o => some o
  | none => match E.F B with
    | some _ => none
    | none => by
      classical
      exact if (∃ i x p, H2.get i = some x ∧ E.φ i = some p ∧ p.b = B) then none else w.heap[B]? }

section
variable {E : Env} {H H2 : AHeap} {w : World}

theorem but_K {B : Nat} {o : Obj} (h : E.K B = some o) : (E.but H2 w).K B = some o := by
  show (match E.K B with | some o => some o | none => _) = some o
  rw [h]
theorem but_knows : Knows E (E.but H2 w) := ⟨fun _ _ h => h, fun _ _ h => but_K h⟩
theorem but_ext : Ext E (E.but H2 w) := ⟨fun _ _ h => h, fun _ _ h => but_K h, rfl, rfl, rfl⟩
theorem but_live (hR : Rel E H w) (hs : ∀ i x, H2.get i = some x → H.get i = some x) {i : Nat} {x : AObj} {p : Place} (hx : H2.get i = some x) (hp : E.φ i = some p) : (E.but H2 w).K p.b = none := by
  obtain ⟨q, ob, h1, h2, h3, h4, h5⟩ := hR.live i x (hs i x hx)
  rw [hp] at h1; cases h1
  show (match E.K p.b with | some o => some o | none => _) = none
  rw [h2]
  show (match E.F p.b with | some _ => none | none => _) = none
  rw [h3]
  exact if_pos ⟨i, x, p, hx, hp, rfl⟩
theorem but_new (hR : Rel E H w) (hs : ∀ i x, H2.get i = some x → H.get i = some x) {i : Nat} {x : AObj} {p : Place} (hx : H.get i = some x) (hn : H2.get i = none) (hp : E.φ i = some p) : (E.but H2 w).K p.b = w.heap[p.b]? := by
  obtain ⟨q, ob, h1, h2, h3, h4, h5⟩ := hR.live i x hx
  rw [hp] at h1; cases h1
  show (match E.K p.b with | some o => some o | none => _) = w.heap[p.b]?
  rw [h2]
  show (match E.F p.b with | some _ => none | none => _) = w.heap[p.b]?
  rw [h3]
  refine if_neg ?_
  rintro ⟨j, y, q, hy, hq, e⟩
  have := hR.inj j i y x q p (hs j y hy) hx hq hp e
  subst this
  rw [hn] at hy; simp at hy

theorem but_rel (hR : Rel E H w) (hs : ∀ i x, H2.get i = some x → H.get i = some x) (hn : H2.next = H.next) : Rel (E.but H2 w) H2 w := by
  refine ⟨hR.os, hR.out, fun B o hB => ?_, hR.F, fun B => ?_, fun i p hp => by rw [hn]; exact hR.dom i p hp, fun i x hi => ?_, fun i j x y p q hi hj => hR.inj i j x y p q (hs i x hi) (hs j y hj)⟩
  · have hB : (match E.K B with | some o => some o | none => match E.F B with | some _ => none | none => by classical exact if (∃ i x p, H2.get i = some x ∧ E.φ i = some p ∧ p.b = B) then none else w.heap[B]?) = some o := hB
    split at hB
    · rename_i o' h; cases hB; exact hR.K B o h
    · split at hB
      · simp at hB
      · split at hB
        · simp at hB
        · exact hB
  · cases hF : E.F B with
    | none => exact .inr hF
    | some o =>
      left
      rcases hR.KF B with e | e
      · show (match E.K B with | some o => some o | none => match E.F B with | some _ => none | none => _) = none
        rw [e, hF]
      · rw [hF] at e; simp at e
  · obtain ⟨p, ob, h1, h2, h3, h4, h5⟩ := hR.live i x (hs i x hi)
    exact ⟨p, ob, h1, but_live hR hs hi h1, h3, h4, h5.mono but_knows⟩

theorem but_ink (hR : Rel E H w) (hs : ∀ i x, H2.get i = some x → H.get i = some x) {i : Nat} {cs : List AV} {p : Place} (hi : H.get i = some (.cells cs)) (hn : H2.get i = none) (hp : E.φ i = some p) (o : Nat) :
    ∃ vs, InK (E.but H2 w) p.b (p.s + o) vs ∧ VRels E (cs.drop o) vs := by
  have hK := but_new hR hs hi hn hp
  obtain ⟨q, ob, h1, h2, h3, h4, c, e, fz, vs, rfl, _, h6, h7, _⟩ := hR.live i _ hi
  rw [hp] at h1; cases h1
  refine ⟨vs.drop o, .inr ⟨c, e, fz, hK.trans h4, ?_⟩, h6.drop o⟩
  obtain ⟨t, ht⟩ := h7
  rw [← List.drop_drop, ← ht]
  by_cases ho : o ≤ vs.length
  · rw [List.drop_append_of_le_length ho]; exact List.prefix_append _ _
  · rw [List.drop_of_length_le (by omega)]; exact List.nil_prefix
end

/-- What is there but not in the part. -/
def offGet (g g2 : Nat → Option AObj) (i : Nat) : Option AObj := match g2 i with
  | some _ => none
  | none => g i

theorem Does.asFrozen {P : Program} {G : Nat → Option AV} {f : FuncId} {args rargs : List AV} {H H2 : AHeap} {Q : AV → AHeap → Prop} {n : Nat} (hs : ∀ i x, H2.get i = some x → H.get i = some x) (hn : H2.next = H.next)
    (hr : optAll (args.map (AV.res (offGet H.get H2.get) n)) = some rargs) (h : Does P G f rargs H2 Q) : Does P G f args H Q :=
  ⟨fun E w vs hR hG hv => by
    have hv2 : VRels (E.but H2 w) rargs vs := res_list (VRel.resG but_knows (fun i cs p hi hp o => by
      unfold offGet at hi
      split at hi
      · simp at hi
      · rename_i h2
        exact but_ink hR hs hi h2 hp o) n) hv hr
    refine (h.run (E.but H2 w) w vs (but_rel hR hs hn) (hG.mono but_knows) hv2).mono fun v w' ⟨r, H', E', g, e2, e3, e4⟩ => ?_
    exact ⟨r, H', E', g, but_ext.trans e2, e3, e4⟩⟩

/-- The blocks that a value leads to. -/
def AV.refs (get : Nat → Option AObj) : Nat → AV → List Nat
  | 0, _ => []
  | n + 1, v => match v with
    | .ptr i o => match get i with
      | some (.cells cs) => i :: (cs.drop o).flatMap (AV.refs get n)
      | _ => []
    | .sl i o z len _ _ => match get i with
      | some (.cells cs) => i :: ((cs.drop o).take (len * z)).flatMap (AV.refs get n)
      | _ => []
    | .vptr cs => cs.flatMap (AV.refs get n)
    | .vsl cs _ => cs.flatMap (AV.refs get n)
    | .iface _ v => AV.refs get n v
    | .agg cs => cs.flatMap (AV.refs get n)
    | .tuple cs => cs.flatMap (AV.refs get n)
    | _ => []

noncomputable def killsK : List Nat → FH → (FH → Bool) → Bool :=
  fun l => List.rec (motive := fun _ => FH → (FH → Bool) → Bool) (fun H k => k H) (fun i _ ih H k => H.killK i (fun H => ih H k) false) l
theorem killsK_inv : ∀ {l : List Nat} {H : FH} {k : FH → Bool}, killsK l H k = true → ∃ H' : FH, (∀ i x, H'.abs.get i = some x → H.abs.get i = some x) ∧ H'.abs.next = H.abs.next ∧ k H' = true
  | [], H, k, h => ⟨H, fun _ _ h => h, rfl, h⟩
  | i :: l, H, k, h => by
    have h : H.killK i (fun H => killsK l H k) false = true := h
    obtain ⟨H1, h1, h2⟩ := FH.killK_inv h
    obtain ⟨H', h3, h4, h5⟩ := killsK_inv h2
    refine ⟨H', fun j x hj => ?_, by rw [h4, h1]; rfl, h5⟩
    have := h3 j x hj
    rw [h1] at this
    have this : (if j = i then none else H.abs.get j) = some x := this
    split at this
    · simp at this
    · exact this

/-- What is known of some calls of one function, by what their arguments lead to. -/
noncomputable def resOv (tab : List (List AV × AV)) (args : List AV) (H : FH) (k : AV → FH → Bool) : Bool :=
  killsK (args.flatMap (AV.refs H.abs.get 1000)) H fun H2 => match optAll (args.map (AV.res (offGet H.abs.get H2.abs.get) 1000)) with
    | some rargs => litOv tab rargs H2 k
    | none => false
theorem resOv_good {P : Program} {G : Nat → Option AV} {f : FuncId} {tab : List (List AV × AV)} (ht : ∀ e ∈ tab, ∀ H, Does P G f e.1 H fun r h => r = e.2 ∧ h = H) (args : List AV) (H : FH) (k : AV → FH → Bool) (h : resOv tab args H k = true) :
    ∃ v H', Does P G f args H.abs (fun r h => r = v ∧ h = FH.abs H') ∧ H.next ≤ H'.next ∧ k v H' = true := by
  unfold resOv at h
  obtain ⟨H2, h1, h2, h⟩ := killsK_inv h
  split at h <;> try (simp at h; done)
  rename_i rargs hr
  obtain ⟨e, h3, rfl, h5⟩ := litOv_inv h
  exact ⟨e.2, H2, Does.asFrozen h1 h2 hr (ht e h3 _), Nat.le_of_eq h2.symm, h5⟩

end Go.Abs

/-
  Atomic operations of one goroutine, sync.Once: contracts, and overrides for the evaluator.
-/


namespace Go.Abs
open Go
variable {P : Program} {G : Nat → Option AV}

noncomputable def isInt (v : AV) (k : IntKind) (n : Int) : Bool := v.onInt false fun k' n' => decide (k' = k) && decide (n' = n)
theorem isInt_inv {v : AV} {k : IntKind} {n : Int} (h : isInt v k n = true) : v = .int k n := by
  rcases AV.onInt_inv h with ⟨k', n', rfl, h⟩ | ⟨h, _⟩
  · have h : (decide (k' = k) && decide (n' = n)) = true := h
    simp only [Bool.and_eq_true, decide_eq_true_eq] at h
    obtain ⟨rfl, rfl⟩ := h; rfl
  · simp at h

/-- A cell that is free to be written. -/
theorem Rel.cellF {E : Env} {H : AHeap} {w : World} (h : Rel E H w) {i : Nat} {cs : List AV} (hi : H.get i = some (.cells cs)) {p : Place} (hp : E.φ i = some p) {o : Nat} {a : AV} (ho : cs[o]? = some a) :
    ∃ v, w.cell? ⟨p.b, p.s + o, none⟩ = some v ∧ VRel E a v ∧ w.frozen? ⟨p.b, p.s + o, none⟩ = false := by
  obtain ⟨v, h1, h2⟩ := h.cell hi hp ho
  obtain ⟨c, fz, vs, k1, k2, k3, k4, k5, _, _⟩ := h.cellsOf' hi hp
  have hl := k3.length
  have hpl := k4.length_le
  simp only [List.length_drop, Array.length_toList] at hpl
  have ho' : o < cs.length := (List.getElem?_eq_some_iff.1 ho).1
  exact ⟨v, h1, h2, frozen?_of k1 (k5.out _ (by omega))⟩

structure IsLoad (P : Program) (f : FuncId) (k : IntKind) : Prop where
  run : ∀ (a : Addr) (x : Int) (w : World), w.cell? a = some (.int k x) → (callFunc f #[.pointer (some a)]).run P w = .ok (.value (.int k x)) w

theorem load_does {f : FuncId} {k : IntKind} (hf : IsLoad P f k) {H : AHeap} {i o : Nat} {cs : List AV} {x : Int} (hi : H.get i = some (.cells cs)) (ho : cs[o]? = some (.int k x)) :
    Does P G f [.ptr i o] H fun r h => r = .int k x ∧ h = H := by
  refine ⟨fun E w vs hR hG hv => ?_⟩
  cases hv with | cons ha hv =>
  cases hv
  cases ha with | ptr hp =>
  obtain ⟨v, h1, h2⟩ := hR.cell hi hp ho
  cases h2
  exact .inr ⟨_, _, hf.run _ _ _ h1, .int k x, H, E, ⟨rfl, rfl⟩, Ext.refl E, .int _ _, hR⟩

noncomputable def loadOv (kd : IntKind) (args : List AV) (H : FH) (k : AV → FH → Bool) : Bool :=
  nthK args 0 (fun a => ifK (Nat.beq (lenN args) 1) (a.onPtr false (fun i o => H.atK i (fun b => b.cellK o (fun v => v.onInt false fun k' n => ifK (decide (k' = kd)) (k (.int kd n) H) false) false) false) (fun _ => false)) false) false

theorem loadOv_good {f : FuncId} {kd : IntKind} (hf : IsLoad P f kd) (args : List AV) (H : FH) (k : AV → FH → Bool) (h : loadOv kd args H k = true) :
    ∃ v H', Does P G f args H.abs (fun r h => r = v ∧ h = FH.abs H') ∧ H.next ≤ H'.next ∧ k v H' = true := by
  unfold loadOv at h
  rw [nthK_eq] at h
  split at h <;> try (simp at h; done)
  rename_i a ha
  obtain ⟨hl, h⟩ := ifK_inv h
  have hl := Nat.eq_of_beq_eq_true hl
  rw [lenN_eq] at hl
  obtain rfl : args = [a] := by
    match args, hl with
    | [x], _ => simp at ha; subst ha; rfl
  rcases AV.onPtr_inv h with ⟨i, o, rfl, h⟩ | ⟨cs, _, h⟩
  case inr => simp at h
  obtain ⟨b, hb, h, _⟩ := FH.atK_inv h
  obtain ⟨v, hv, h⟩ := FObj.cellK_inv h
  rcases AV.onInt_inv h with ⟨k', n, rfl, h⟩ | ⟨h, _⟩
  case inr => simp at h
  obtain ⟨hk, h⟩ := ifK_inv h
  have hk := of_decide_eq_true hk
  subst hk
  exact ⟨_, H, load_does hf hb hv, Nat.le_refl _, h⟩

structure IsAdd (P : Program) (f : FuncId) (k : IntKind) : Prop where
  run : ∀ (a : Addr) (x y : Int) (w : World), w.cell? a = some (.int k x) → w.frozen? a = false → (callFunc f #[.pointer (some a), .int k y]).run P w = .ok (.value (.int k (k.wrap (x + y)))) (w.setCell a (.int k (k.wrap (x + y))))

theorem add_does {f : FuncId} {k : IntKind} (hf : IsAdd P f k) {H : AHeap} {i o : Nat} {cs : List AV} {x y : Int} (hi : H.get i = some (.cells cs)) (ho : cs[o]? = some (.int k x)) :
    Does P G f [.ptr i o, .int k y] H fun r h => r = .int k (k.wrap (x + y)) ∧ h = H.set i (.cells (cs.set o (.int k (k.wrap (x + y))))) := by
  refine ⟨fun E w vs hR hG hv => ?_⟩
  cases hv with | cons ha hv =>
  cases hv with | cons hb hv =>
  cases hv
  cases hb
  cases ha with | ptr hp =>
  obtain ⟨v, h1, h2, h3⟩ := hR.cellF hi hp ho
  cases h2
  have hw := (hR.write hi hp (List.getElem?_eq_some_iff.1 ho).1 (VRel.int (E := E) k (k.wrap (x + y))) rfl P).2
  exact .inr ⟨_, _, hf.run _ _ _ _ h1 h3, _, _, E, ⟨rfl, rfl⟩, Ext.refl E, .int _ _, hw⟩

noncomputable def addOv (kd : IntKind) (args : List AV) (H : FH) (k : AV → FH → Bool) : Bool :=
  nthK args 0 (fun a => nthK args 1 (fun b => ifK (Nat.beq (lenN args) 2) (a.onPtr false (fun i o => b.onInt false fun kb y => ifK (decide (kb = kd)) (H.atK i (fun x => x.cellK o (fun v => v.onInt false fun k' n => ifK (decide (k' = kd))
    (intK (kd.wrap (n + y)) fun s => x.wr1 o (.int kd s) (fun x => H.putK i x fun H => k (.int kd s) H) false) false) false) false) false) (fun _ => false)) false) false) false

theorem addOv_good {f : FuncId} {kd : IntKind} (hf : IsAdd P f kd) (args : List AV) (H : FH) (k : AV → FH → Bool) (h : addOv kd args H k = true) :
    ∃ v H', Does P G f args H.abs (fun r h => r = v ∧ h = FH.abs H') ∧ H.next ≤ H'.next ∧ k v H' = true := by
  unfold addOv at h
  rw [nthK_eq] at h
  split at h <;> try (simp at h; done)
  rename_i a ha
  rw [nthK_eq] at h
  split at h <;> try (simp at h; done)
  rename_i b hb
  obtain ⟨hl, h⟩ := ifK_inv h
  have hl := Nat.eq_of_beq_eq_true hl
  rw [lenN_eq] at hl
  obtain rfl : args = [a, b] := by
    match args, hl with
    | [x, y], _ => simp at ha hb; subst ha; subst hb; rfl
  rcases AV.onPtr_inv h with ⟨i, o, rfl, hA⟩ | ⟨cs, _, h⟩
  case inr => simp at h
  rcases AV.onInt_inv hA with ⟨kb, y, rfl, hB⟩ | ⟨h, _⟩
  case inr => simp at h
  obtain ⟨hk, h⟩ := ifK_inv hB
  have hk := of_decide_eq_true hk
  subst hk
  obtain ⟨x, hx, h, hi⟩ := FH.atK_inv h
  obtain ⟨v, hv, h⟩ := FObj.cellK_inv h
  rcases AV.onInt_inv h with ⟨k', n, rfl, h⟩ | ⟨h, _⟩
  case inr => simp at h
  obtain ⟨hk, h⟩ := ifK_inv h
  have hk := of_decide_eq_true hk
  subst hk
  rw [intK_eq] at h
  obtain ⟨h1, x2, hx2, h⟩ := FObj.wr1_inv h
  obtain ⟨H', hH, h⟩ := FH.putK_inv hi h
  refine ⟨_, H', (add_does hf hx hv).mono fun r h' ⟨g1, g2⟩ => ⟨g1, ?_⟩, ?_, h⟩
  · rw [g2, hH]
    simp only [FObj.abs, hx2]
  · have := congrArg AHeap.next hH
    simp only [AHeap.set] at this
    have e : H'.next = H.next := this
    omega

/-- sync.Once's slow road, its word and its lock free: what it does, by what the function that it is handed does. -/
structure IsSlow (P : Program) (f : FuncId) : Prop where
  enters : Enters P f
  run : ∀ (b o : Nat) (fn : Fn) (first cap : Array Value) (w : World) (K : World → Prop), w.cell? ⟨b, o, none⟩ = some (.int .u32 0) → w.cell? ⟨b, o + 1, none⟩ = some (.int .i32 0) → w.frozen? ⟨b, o, none⟩ = false → w.frozen? ⟨b, o + 1, none⟩ = false →
    (∃ g, fn = .func g ∧ OpCalls P g (first ++ cap) (w.setCell ⟨b, o + 1, none⟩ (.int .i32 1)) fun _ w2 => K w2) →
    (∀ w2, K w2 → w2.cell? ⟨b, o, none⟩ = some (.int .u32 0) ∧ w2.cell? ⟨b, o + 1, none⟩ = some (.int .i32 1) ∧ w2.frozen? ⟨b, o, none⟩ = false ∧ w2.frozen? ⟨b, o + 1, none⟩ = false) →
    Calls P f #[.pointer (some ⟨b, o, none⟩), .func fn first cap] w fun e w' => e = .returned (.tuple #[]) ∧ ∃ w2, K w2 ∧ w' = (w2.drew.setCell ⟨b, o, none⟩ (.int .u32 1)).setCell ⟨b, o + 1, none⟩ (.int .i32 0)

theorem slow_does {f g : FuncId} (hf : IsSlow P f) {H H2 : AHeap} {i o : Nat} {cs cs2 first cap : List AV} (hi : H.get i = some (.cells cs)) (h0 : cs[o]? = some (.int .u32 0)) (h1 : cs[o + 1]? = some (.int .i32 0))
    (hg : Does P G g (first ++ cap) (H.set i (.cells (cs.set (o + 1) (.int .i32 1)))) fun _ h => h = H2) (hi2 : H2.get i = some (.cells cs2)) (k0 : cs2[o]? = some (.int .u32 0)) (k1 : cs2[o + 1]? = some (.int .i32 1)) :
    Does P G f [.ptr i o, .func (.func g) first cap] H fun r h => r = .tuple [] ∧ h = H2.set i (.cells ((cs2.set o (.int .u32 1)).set (o + 1) (.int .i32 0))) := by
  refine ⟨fun E w vs hR hG hv => ?_⟩
  cases hv with | cons ha hv =>
  cases hv with | cons hb hv =>
  cases hv
  cases hb with | func hf1 hc1 =>
  rename_i f2 c2
  cases ha with | ptr hp =>
  rename_i p
  obtain ⟨v0, a1, a2, a3⟩ := hR.cellF hi hp h0
  cases a2
  obtain ⟨v1, b1, b2, b3⟩ := hR.cellF hi hp h1
  cases b2
  have hl1 := (List.getElem?_eq_some_iff.1 h1).1
  have hR1 := (hR.write hi hp hl1 (VRel.int (E := E) .i32 1) rfl P).2
  have hall : VRels E (first ++ cap) (f2 ++ c2).toList := by
    rw [Array.toList_append]; exact hf1.append hc1
  have hcall := hg.run E _ _ hR1 hG hall
  refine .inl ⟨hf.enters _ _, (hf.run p.b (p.s + o) (.func g) f2 c2 w (fun w2 => ∃ E', Ext E E' ∧ Rel E' H2 w2) a1 b1 a3 b3 ⟨g, rfl, ?_⟩ ?_).mono ?_⟩
  · refine OpCalls.mono hcall ?_
    rintro v w' ⟨r, H', E', rfl, g1, g2, g3⟩
    exact ⟨E', g1, g3⟩
  · rintro w2 ⟨E', g1, g3⟩
    have hp' := g1.φ _ _ hp
    obtain ⟨v0, a1, a2, a3⟩ := g3.cellF hi2 hp' k0
    cases a2
    obtain ⟨v1, b1, b2, b3⟩ := g3.cellF hi2 hp' k1
    cases b2
    exact ⟨a1, b1, a3, b3⟩
  · rintro e w' ⟨rfl, w2, ⟨E', g1, g3⟩, rfl⟩
    have hp' := g1.φ _ _ hp
    have l0 := (List.getElem?_eq_some_iff.1 k0).1
    have l1 := (List.getElem?_eq_some_iff.1 k1).1
    have q1 := (g3.drew.write hi2 hp' l0 (VRel.int (E := E') .u32 1) rfl P).2
    have hi3 : (H2.set i (.cells (cs2.set o (.int .u32 1)))).get i = some (.cells (cs2.set o (.int .u32 1))) := AHeap.get_set_same _ _ _
    have q2 := (q1.write hi3 hp' (o := o + 1) (by simpa using l1) (VRel.int (E := E') .i32 0) rfl P).2
    rw [AHeap.set_set] at q2
    exact ⟨_, rfl, .tuple [], _, E', ⟨rfl, rfl⟩, g1, .tuple .nil, q2⟩

noncomputable def onceOv (ov : Ov) (P : Program) (G : Nat → Option AV) (fuel n : Nat) (args : List AV) (H : FH) (k : AV → FH → Bool) : Bool :=
  nthK args 0 (fun a => nthK args 1 (fun b => ifK (Nat.beq (lenN args) 2) (a.onPtr false (fun i o => b.onFunc false fun fn first cap => match fn with
    | .func g => H.atK i (fun x => x.cellK o (fun v => ifK (isInt v .u32 0) (x.cellK (o + 1) (fun v => ifK (isInt v .i32 0)
        (x.wr1 (o + 1) (.int .i32 1) (fun x => H.putK i x fun H => fcall ov P G fuel n g (first ++ cap) H fun _ H2 =>
          H2.atK i (fun y => y.cellK o (fun v => ifK (isInt v .u32 0) (y.cellK (o + 1) (fun v => ifK (isInt v .i32 1)
            (y.wr1 o (.int .u32 1) (fun y => y.wr1 (o + 1) (.int .i32 0) (fun y => H2.putK i y fun H => k (.tuple []) H) false) false) false) false) false) false) false) false) false) false) false) false) false
    | _ => false) (fun _ => false)) false) false) false

theorem onceOv_good {ov : Ov} {f : FuncId} {fuel n : Nat} (hm : P.follows .mixedOrders = true) (hp : plainFn P = true) (hov : OvGoodK P G ov) (hf : IsSlow P f) (args : List AV) (H : FH) (k : AV → FH → Bool) (h : onceOv ov P G fuel n args H k = true) :
    ∃ v H', Does P G f args H.abs (fun r h => r = v ∧ h = FH.abs H') ∧ H.next ≤ H'.next ∧ k v H' = true := by
  unfold onceOv at h
  rw [nthK_eq] at h
  split at h <;> try (simp at h; done)
  rename_i a ha
  rw [nthK_eq] at h
  split at h <;> try (simp at h; done)
  rename_i b hb
  obtain ⟨hl, h⟩ := ifK_inv h
  have hl := Nat.eq_of_beq_eq_true hl
  rw [lenN_eq] at hl
  obtain rfl : args = [a, b] := by
    match args, hl with
    | [x, y], _ => simp at ha hb; subst ha; subst hb; rfl
  rcases AV.onPtr_inv h with ⟨i, o, rfl, hA⟩ | ⟨cs, _, h⟩
  case inr => simp at h
  obtain ⟨fn, first, cap, rfl, hB⟩ := AV.onFunc_inv hA
  cases fn with
  | func g =>
  obtain ⟨x, hx, hC, hi⟩ := FH.atK_inv hB
  obtain ⟨v0, h0, hD⟩ := FObj.cellK_inv hC
  obtain ⟨e0, hE⟩ := ifK_inv hD
  have e0 := isInt_inv e0
  subst e0
  obtain ⟨v1, h1, hF⟩ := FObj.cellK_inv hE
  obtain ⟨e1, hG'⟩ := ifK_inv hF
  have e1 := isInt_inv e1
  subst e1
  obtain ⟨_, x2, hx2, hI⟩ := FObj.wr1_inv hG'
  obtain ⟨H1, hH1, hJ⟩ := FH.putK_inv hi hI
  obtain ⟨v, H2, hd, hn, hK⟩ := fcall_sound hm hp hov n g _ H1 _ hJ
  obtain ⟨y, hy, hL, _⟩ := FH.atK_inv hK
  obtain ⟨v2, h2, hM⟩ := FObj.cellK_inv hL
  obtain ⟨e2, hN⟩ := ifK_inv hM
  have e2 := isInt_inv e2
  subst e2
  obtain ⟨v3, h3, hO⟩ := FObj.cellK_inv hN
  obtain ⟨e3, hP⟩ := ifK_inv hO
  have e3 := isInt_inv e3
  subst e3
  obtain ⟨_, y2, hy2, hQ⟩ := FObj.wr1_inv hP
  obtain ⟨_, y3, hy3, hR⟩ := FObj.wr1_inv hQ
  obtain ⟨H3, hH3, hS⟩ := FH.putK_inv hi hR
  have n1 : H1.next = H.next := by have := congrArg AHeap.next hH1; exact this
  have n3 : H3.next = H2.next := by have := congrArg AHeap.next hH3; exact this
  refine ⟨_, H3, (slow_does hf (H2 := H2.abs) (cs2 := y.list) hx h0 h1 ?_ hy h2 h3).mono fun r h' ⟨g1, g2⟩ => ⟨g1, ?_⟩, by omega, hS⟩
  · have e : H.abs.set i (.cells (x.list.set (o + 1) (.int .i32 1))) = H1.abs := by rw [hH1]; simp only [FObj.abs, hx2]
    rw [e]
    exact hd.mono fun r h' ⟨_, g2⟩ => g2
  · rw [g2, hH3]
    simp only [FObj.abs, hy3, hy2]
  | _ => simp at hB
end Go.Abs

/-
  sync.Once's slow road in this program, its lock free; atomic loads and additions: what the overrides of FrS ask for.
-/










namespace Go.Proofs.YtajcehcdmbfhaaaGreatDoor
open Go Go.Abs
set_option maxRecDepth 1000000
set_option maxHeartbeats 8000000

theorem fl_disable (w : World) : (callFunc 319 #[]).run Tryz.prog w = .ok (.value (.tuple #[])) w := run_call_mark0 Tryz.func319 (by kernel_rfl) (by kernel_rfl) (by kernel_rfl) .disable (by kernel_rfl) w
theorem fl_enable (w : World) : (callFunc 321 #[]).run Tryz.prog w = .ok (.value (.tuple #[])) w := run_call_mark0 Tryz.func321 (by kernel_rfl) (by kernel_rfl) (by kernel_rfl) .enable (by kernel_rfl) w
theorem fl_acquire (a : Addr) (w : World) : (callFunc 322 #[.pointer (some a)]).run Tryz.prog w = .ok (.value (.tuple #[])) w := run_call_marked Tryz.func322 (by kernel_rfl) (by kernel_rfl) (by kernel_rfl) .acquire (by kernel_rfl) a w
theorem fl_merge (a : Addr) (w : World) : (callFunc 324 #[.pointer (some a)]).run Tryz.prog w = .ok (.value (.tuple #[])) w := run_call_marked Tryz.func324 (by kernel_rfl) (by kernel_rfl) (by kernel_rfl) .releaseMerge (by kernel_rfl) a w

theorem fl_stored (a : Addr) (x : Value) (u : FrameMode) (w : World) (hc : w.cell? a = some x) (hz : w.frozen? a = false) :
    CallsD Tryz.prog 157 #[.pointer (some a), .bool true] u w fun e u' w' => u' = u ∧ (e = .returned (.tuple #[]) ∧ w' = w.drew.setCell a (.int .u32 1)) := by
  have hc' : w.drew.cell? a = some x := by go_simp
  have hz' : w.drew.frozen? a = false := by go_simp
  have hst := run_call_store (P := Tryz.prog) Tryz.func229 (by kernel_rfl) (by kernel_rfl) (by kernel_rfl) (by kernel_rfl) (k := .u32) (y := 1) hc' hz'
  go_enter_d Tryz.func157, Tryz.ntmps157
  go_wp2
  go_region_calls
  all_goals (go_end0; exact ⟨rfl, rfl⟩)

theorem fl_unlock0 (a : Addr) (w : World) (hc : w.cell? a = some (.int .i32 1)) (hz : w.frozen? a = false) :
    Calls Tryz.prog 228 #[.pointer (some a)] w fun e w' => e = .returned (.tuple #[]) ∧ w' = w.setCell a (.int .i32 0) := by
  have hd := fl_disable
  have he := fl_enable
  have hr := fl_merge
  have hadd := run_call_add (P := Tryz.prog) Tryz.func325 (by kernel_rfl) (by kernel_rfl) (by kernel_rfl) .i32 (by kernel_rfl) (y := -1) (s := 0) hc hz (by simp [go_sem]; rfl)
  have hcv := run_convert_to_unsafe (P := Tryz.prog) (src := 456) (dst := 204) Tryz.underlying456 Tryz.underlying204 (by kernel_rfl) hc
  go_enter Tryz.func228, Tryz.ntmps228
  go_wp2
  go_end0
  go_wp2
  all_goals (go_end0; exact ⟨rfl, rfl⟩)
theorem fl_lock0 (a : Addr) (w : World) (hc : w.cell? a = some (.int .i32 0)) (hz : w.frozen? a = false) :
    Calls Tryz.prog 227 #[.pointer (some a)] w fun e w' => e = .returned (.tuple #[]) ∧ w' = w.setCell a (.int .i32 1) := by
  have hd := fl_disable
  have he := fl_enable
  have ha := fl_acquire
  have hcas := run_call_cas_hit (P := Tryz.prog) Tryz.func320 (by kernel_rfl) (by kernel_rfl) (by kernel_rfl) .i32 (by kernel_rfl) (y := 1) hc hz
  have hc' : (w.setCell a (.int .i32 1)).cell? a = some (.int .i32 1) := World.cell?_setCell_same w a _ hc
  have hcv := run_convert_to_unsafe (P := Tryz.prog) (src := 456) (dst := 204) Tryz.underlying456 Tryz.underlying204 (by kernel_rfl) hc'
  go_enter Tryz.func227, Tryz.ntmps227
  go_wp2
  first | go_end0 | (simp only [Exit.inBlock, Exit.then]; refine bodyPost_ret (results_none rfl _ _ _) rfl ?_) | refine bodyPost_ret (results_none rfl _ _ _) rfl ?_
  go_wp2
  all_goals (go_end0; exact ⟨rfl, rfl⟩)

theorem fl_lock (a : Addr) (w : World) (hc : w.cell? a = some (.int .i32 0)) (hz : w.frozen? a = false) (hs : a.spot = none) :
    Calls Tryz.prog 155 #[.pointer (some a)] w fun e w' => e = .returned (.tuple #[]) ∧ w' = w.setCell a (.int .i32 1) := by
  obtain ⟨b, o, s⟩ := a
  obtain rfl : s = none := hs
  have hl := fl_lock0 ⟨b, o, none⟩ w hc hz
  go_enter Tryz.func155, Tryz.ntmps155
  go_wp2_with (go_at_call 227; refine hl.mono ?_; rintro e w' ⟨rfl, rfl⟩)
  all_goals (go_end0; exact ⟨rfl, rfl⟩)
theorem fl_unlocked (a : Addr) (u : FrameMode) (w : World) (hc : w.cell? a = some (.int .i32 1)) (hz : w.frozen? a = false) (hs : a.spot = none) :
    CallsD Tryz.prog 156 #[.pointer (some a)] u w fun e u' w' => u' = u ∧ (e = .returned (.tuple #[]) ∧ w' = w.setCell a (.int .i32 0)) := by
  obtain ⟨b, o, s⟩ := a
  obtain rfl : s = none := hs
  have hl := fl_unlock0 ⟨b, o, none⟩ w hc hz
  go_enter_d Tryz.func156, Tryz.ntmps156
  go_wp2_with (go_at_call 228; refine hl.mono ?_; rintro e w' ⟨rfl, rfl⟩)
  all_goals (go_end0; exact ⟨rfl, rfl⟩)
end Go.Proofs.YtajcehcdmbfhaaaGreatDoor

/-
  A call that only reads may be known by what its arguments lead to: live blocks are lent to it as frozen ones.
-/

namespace Go.Abs
open Go

mutual
/-- A value that leads nowhere. -/
def AV.plain : AV → Bool
  | .bool _ | .int _ _ | .str _ | .nilptr | .nilsl | .nilmap | .nilfunc | .niliface => true
  | .agg cs => AV.plains cs
  | .tuple cs => AV.plains cs
  | _ => false
def AV.plains : List AV → Bool
  | [] => true
  | a :: l => AV.plain a && AV.plains l
end

mutual
theorem VRel.plain {E E' : Env} : ∀ {a : AV} {v : Value}, VRel E a v → a.plain = true → VRel E' a v
  | _, _, .bool b, _ => .bool b
  | _, _, .int k n, _ => .int k n
  | _, _, .str s, _ => .str s
  | _, _, .nilptr, _ => .nilptr
  | _, _, .nilsl, _ => .nilsl
  | _, _, .nilmap, _ => .nilmap
  | _, _, .nilfunc, _ => .nilfunc
  | _, _, .niliface, _ => .niliface
  | _, _, .agg h, p => .agg (VRels.plain h p)
  | _, _, .tuple h, p => .tuple (VRels.plain h p)
theorem VRels.plain {E E' : Env} : ∀ {a : List AV} {v : List Value}, VRels E a v → AV.plains a = true → VRels E' a v
  | _, _, .nil, _ => .nil
  | _, _, .cons h t, p => by
    simp only [AV.plains, Bool.and_eq_true] at p
    exact .cons (VRel.plain h p.1) (VRels.plain t p.2)
end

/-- Arguments as they are, or as what they lead to. -/
inductive Lent (get : Nat → Option AObj) (n : Nat) : List AV → List AV → Prop
  | nil : Lent get n [] []
  | keep (a : AV) {l r : List AV} (h : Lent get n l r) : Lent get n (a :: l) (a :: r)
  | res {a b : AV} {l r : List AV} (e : AV.res get n a = some b) (h : Lent get n l r) : Lent get n (a :: l) (b :: r)

theorem Lent.rel {E : Env} {H : AHeap} {w : World} (hR : Rel E H w) {n : Nat} : ∀ {l r : List AV} {vs : List Value}, Lent H.get n l r → VRels E l vs → VRels (E.all w) r vs
  | _, _, _, .nil, .nil => .nil
  | _, _, _, .keep _ h, .cons h1 t => .cons (h1.mono (all_ext hR).knows) (Lent.rel hR h t)
  | _, _, _, .res e h, .cons h1 t => .cons (VRel.res hR n _ _ _ h1 e) (Lent.rel hR h t)

theorem Does.borrow {P : Program} {G : Nat → Option AV} {f : FuncId} {args rargs : List AV} {H : AHeap} {n : Nat} {R : AV → AHeap → Prop}
    (hr : Lent H.get n args rargs) (h : Does P G f rargs (AHeap.empty H.next) R) (hp : ∀ r H1, R r H1 → r.plain = true) :
    Does P G f args H fun r h => (∃ H1, R r H1) ∧ h = H :=
  ⟨fun E w vs hR hG hv => by
    have hv2 : VRels (E.all w) rargs vs := Lent.rel hR hr hv
    refine (h.run (E.all w) w vs (all_rel hR) (hG.mono (all_ext hR).knows) hv2).mono ?_
    rintro v w' ⟨r, H1, E1, g1, g2, g3, g4⟩
    have hK : ∀ B o, E.F B = none → w.heap[B]? = some o → w'.heap[B]? = some o := fun B o hF hB => by
      refine g4.K B o (g2.K B o ?_)
      show (match E.F B with | some _ => none | none => w.heap[B]?) = some o
      rw [hF]; exact hB
    refine ⟨r, H, E, ⟨⟨H1, g1⟩, rfl⟩, ⟨fun _ _ h => h, fun _ _ h => h, rfl, rfl, rfl⟩, VRel.plain g3 (hp r H1 g1), ?_⟩
    refine ⟨g4.os.trans g2.os, g4.out.trans g2.out, fun B o hB => ?_, fun B o hB => ?_, hR.KF, hR.dom, fun i x hi => ?_, hR.inj⟩
    · rcases hR.KF B with e | e
      · rw [e] at hB; simp at hB
      · exact hK B o e (hR.K B o hB)
    · exact g4.F B o (by rw [g2.F]; exact hB)
    · obtain ⟨p, ob, h1, h2, h3, h4, h5⟩ := hR.live i x hi
      exact ⟨p, ob, h1, h2, h3, hK _ _ h3 h4, h5⟩⟩
end Go.Abs

/-
  Some calls of a function that only reads, known by what their arguments lead to; what is lent stays.
-/


namespace Go.Abs
open Go

noncomputable def lentOv (tab : List (List AV × AV)) (args : List AV) (H : FH) (k : AV → FH → Bool) : Bool :=
  match optAll (args.map (AV.res H.abs.get 1000)) with
  | some rargs => litOv tab rargs H fun v H' => ifK v.plain (k v H') false
  | none => false
theorem optAll_lent {get : Nat → Option AObj} {n : Nat} : ∀ {l r : List AV}, optAll (l.map (AV.res get n)) = some r → Lent get n l r
  | [], r, h => by
    simp [optAll] at h
    subst h; exact .nil
  | a :: l, r, h => by
    rw [List.map_cons] at h
    cases ha : AV.res get n a with
    | none => rw [ha] at h; simp [optAll] at h
    | some b =>
      rw [ha] at h
      cases hl : optAll (l.map (AV.res get n)) with
      | none => simp [optAll, hl] at h
      | some bs =>
        simp [optAll, hl] at h
        subst h
        exact .res ha (optAll_lent hl)
theorem lentOv_good {P : Program} {G : Nat → Option AV} {f : FuncId} {tab : List (List AV × AV)} (ht : ∀ e ∈ tab, ∀ H, Does P G f e.1 H fun r h => r = e.2 ∧ h = H) (args : List AV) (H : FH) (k : AV → FH → Bool) (h : lentOv tab args H k = true) :
    ∃ v H', Does P G f args H.abs (fun r h => r = v ∧ h = FH.abs H') ∧ H.next ≤ H'.next ∧ k v H' = true := by
  unfold lentOv at h
  split at h <;> try (simp at h; done)
  rename_i rargs hr
  obtain ⟨e, h3, rfl, h5⟩ := litOv_inv h
  obtain ⟨h6, h7⟩ := ifK_inv h5
  refine ⟨e.2, H, (Does.borrow (optAll_lent hr) (ht e h3 _) (fun r H1 hR => by rw [hR.1]; exact h6)).mono ?_, Nat.le_refl _, h7⟩
  rintro r h ⟨⟨H1, g1, _⟩, g2⟩
  exact ⟨g1, g2⟩
end Go.Abs

/-
  DERIVED: THE SHELF's CONTRACTS AT THIS DUMP, IN PLAIN WORDS (tools/lay-plain.mjs out of 'YtajcehcdmbfhaaaGreatDoorShP.lean', which tools/lay-shelf.mjs wrote): THE SAME DECLARATIONS UNDER THE SAME NAMES: 'import', 'namespace', 'open', 'def', 'theorem' AND NOTHING ELSE: no command of the shelf's: FOR A HAND-IN. Each laying: the table of numbers ('.._ren') and one theorem, a field a fact of the dump's own or the kernel's comparison; each contract: ONE APPLICATION.
-/





namespace Go.Proofs
open Go.Shelf
def Tryz.laysRepeat_ren : Go.Shelf.Ren := ⟨fun | 105 => 45 | 212 => 93 | 99 => 94 | 165 => 95 | 166 => 13 | 170 => 96 | 169 => 15 | 263 => 181 | 264 => 182 | 206 => 183 | 240 => 32 | 241 => 184 | 276 => 71 | 277 => 268 | n => n, fun | 9 => 9 | 3 => 3 | 4 => 4 | 20 => 20 | 0 => 0 | 46 => 225 | 109 => 226 | 5 => 5 | 72 => 54 | 76 => 61 | 51 => 89 | 146 => 319 | 53 => 121 | 148 => 321 | 70 => 52 | 37 => 23 | 75 => 60 | 127 => 131 | 164 => 204 | 80 => 64 | n => n, fun | n => n⟩
theorem Tryz.laysRepeat : Go.Proofs.Lays.n105 Tryz.prog Tryz.laysRepeat_ren := {
  mixed := by kernel_rfl
  f99 := Tryz.func94.trans (congrArg some (by kernel_rfl))
  f105 := Tryz.func45.trans (congrArg some (by kernel_rfl))
  f165 := Tryz.func95.trans (congrArg some (by kernel_rfl))
  f166 := Tryz.func13.trans (congrArg some (by kernel_rfl))
  f169 := Tryz.func15.trans (congrArg some (by kernel_rfl))
  f170 := Tryz.func96.trans (congrArg some (by kernel_rfl))
  f206 := Tryz.func183.trans (congrArg some (by kernel_rfl))
  f212 := Tryz.func93.trans (congrArg some (by kernel_rfl))
  f240 := Tryz.func32.trans (congrArg some (by kernel_rfl))
  f241 := Tryz.func184.trans (congrArg some (by kernel_rfl))
  f263 := Tryz.func181.trans (congrArg some (by kernel_rfl))
  f264 := Tryz.func182.trans (congrArg some (by kernel_rfl))
  f276 := Tryz.func71.trans (congrArg some (by kernel_rfl))
  f277 := Tryz.func268.trans (congrArg some (by kernel_rfl))
  t0 := Tryz.underlying0
  a0 := Tryz.isAgg0
  z0 := Tryz.sizeOf0
  v0 := Tryz.zeroValue0
  t3 := Tryz.underlying3
  a3 := Tryz.isAgg3
  z3 := Tryz.sizeOf3
  v3 := Tryz.zeroValue3
  t4 := Tryz.underlying4
  a4 := Tryz.isAgg4
  z4 := Tryz.sizeOf4
  v4 := Tryz.zeroValue4
  t5 := Tryz.underlying5
  a5 := Tryz.isAgg5
  z5 := Tryz.sizeOf5
  v5 := Tryz.zeroValue5
  t9 := Tryz.underlying9
  a9 := Tryz.isAgg9
  z9 := Tryz.sizeOf9
  v9 := Tryz.zeroValue9
  t20 := Tryz.underlying20
  a20 := Tryz.isAgg20
  z20 := Tryz.sizeOf20
  v20 := Tryz.zeroValue20
  t37 := Tryz.underlying23
  a37 := Tryz.isAgg23
  z37 := Tryz.sizeOf23
  v37 := Tryz.zeroValue23
  t46 := Tryz.underlying225
  a46 := Tryz.isAgg225
  z46 := Tryz.sizeOf225
  v46 := Tryz.zeroValue225
  t51 := Tryz.underlying89
  a51 := Tryz.isAgg89
  z51 := Tryz.sizeOf89
  v51 := Tryz.zeroValue89
  t53 := Tryz.underlying121
  a53 := Tryz.isAgg121
  z53 := Tryz.sizeOf121
  v53 := Tryz.zeroValue121
  t70 := Tryz.underlying52
  a70 := Tryz.isAgg52
  z70 := Tryz.sizeOf52
  v70 := Tryz.zeroValue52
  t72 := Tryz.underlying54
  a72 := Tryz.isAgg54
  z72 := Tryz.sizeOf54
  v72 := Tryz.zeroValue54
  t75 := Tryz.underlying60
  a75 := Tryz.isAgg60
  z75 := Tryz.sizeOf60
  v75 := Tryz.zeroValue60
  t76 := Tryz.underlying61
  a76 := Tryz.isAgg61
  z76 := Tryz.sizeOf61
  v76 := Tryz.zeroValue61
  t109 := Tryz.underlying226
  a109 := Tryz.isAgg226
  z109 := Tryz.sizeOf226
  v109 := Tryz.zeroValue226
  t127 := Tryz.underlying131
  a127 := Tryz.isAgg131
  z127 := Tryz.sizeOf131
  v127 := Tryz.zeroValue131
  t146 := Tryz.underlying319
  a146 := Tryz.isAgg319
  z146 := Tryz.sizeOf319
  v146 := Tryz.zeroValue319
  t148 := Tryz.underlying321
  a148 := Tryz.isAgg321
  z148 := Tryz.sizeOf321
  v148 := Tryz.zeroValue321
  t164 := Tryz.underlying204
  a164 := Tryz.isAgg204
  z164 := Tryz.sizeOf204
  v164 := Tryz.zeroValue204 }
def Tryz.laysFormat_ren : Go.Shelf.Ren := ⟨fun | 173 => 170 | 246 => 59 | 283 => 135 | 284 => 136 | 285 => 137 | 286 => 138 | 129 => 219 | 317 => 218 | 318 => 220 | 319 => 221 | 320 => 222 | 337 => 317 | 338 => 318 | n => n, fun | 2 => 2 | 3 => 3 | 9 => 9 | 4 => 4 | 171 => 278 | 0 => 0 | 53 => 121 | 37 => 23 | 5 => 5 | 173 => 281 | 212 => 360 | 51 => 89 | 20 => 20 | 213 => 361 | 46 => 225 | 232 => 394 | 233 => 549 | n => n, fun | 17 => 0 | 18 => 4 | 19 => 5 | n => n⟩
theorem Tryz.laysFormat : Go.Proofs.LaysM.n173 Tryz.prog Tryz.laysFormat_ren := {
  mixed := by kernel_rfl
  f129 := Tryz.func219.trans (congrArg some (by kernel_rfl))
  f173 := Tryz.func170.trans (congrArg some (by kernel_rfl))
  f246 := Tryz.func59.trans (congrArg some (by kernel_rfl))
  f283 := Tryz.func135.trans (congrArg some (by kernel_rfl))
  f284 := Tryz.func136.trans (congrArg some (by kernel_rfl))
  f285 := Tryz.func137.trans (congrArg some (by kernel_rfl))
  f286 := Tryz.func138.trans (congrArg some (by kernel_rfl))
  f317 := Tryz.func218.trans (congrArg some (by kernel_rfl))
  f318 := Tryz.func220.trans (congrArg some (by kernel_rfl))
  f319 := Tryz.func221.trans (congrArg some (by kernel_rfl))
  f320 := Tryz.func222.trans (congrArg some (by kernel_rfl))
  f337 := Tryz.func317.trans (congrArg some (by kernel_rfl))
  f338 := Tryz.func318.trans (congrArg some (by kernel_rfl))
  t0 := Tryz.underlying0
  a0 := Tryz.isAgg0
  z0 := Tryz.sizeOf0
  v0 := Tryz.zeroValue0
  t2 := Tryz.underlying2
  a2 := Tryz.isAgg2
  z2 := Tryz.sizeOf2
  v2 := Tryz.zeroValue2
  t3 := Tryz.underlying3
  a3 := Tryz.isAgg3
  z3 := Tryz.sizeOf3
  v3 := Tryz.zeroValue3
  t4 := Tryz.underlying4
  a4 := Tryz.isAgg4
  z4 := Tryz.sizeOf4
  v4 := Tryz.zeroValue4
  t5 := Tryz.underlying5
  a5 := Tryz.isAgg5
  z5 := Tryz.sizeOf5
  v5 := Tryz.zeroValue5
  t9 := Tryz.underlying9
  a9 := Tryz.isAgg9
  z9 := Tryz.sizeOf9
  v9 := Tryz.zeroValue9
  t20 := Tryz.underlying20
  a20 := Tryz.isAgg20
  z20 := Tryz.sizeOf20
  v20 := Tryz.zeroValue20
  t37 := Tryz.underlying23
  a37 := Tryz.isAgg23
  z37 := Tryz.sizeOf23
  v37 := Tryz.zeroValue23
  t46 := Tryz.underlying225
  a46 := Tryz.isAgg225
  z46 := Tryz.sizeOf225
  v46 := Tryz.zeroValue225
  t51 := Tryz.underlying89
  a51 := Tryz.isAgg89
  z51 := Tryz.sizeOf89
  v51 := Tryz.zeroValue89
  t53 := Tryz.underlying121
  a53 := Tryz.isAgg121
  z53 := Tryz.sizeOf121
  v53 := Tryz.zeroValue121
  t171 := Tryz.underlying278
  a171 := Tryz.isAgg278
  z171 := Tryz.sizeOf278
  v171 := Tryz.zeroValue278
  t173 := Tryz.underlying281
  a173 := Tryz.isAgg281
  z173 := Tryz.sizeOf281
  v173 := Tryz.zeroValue281
  t212 := Tryz.underlying360
  a212 := Tryz.isAgg360
  z212 := Tryz.sizeOf360
  v212 := Tryz.zeroValue360
  t213 := Tryz.underlying361
  a213 := Tryz.isAgg361
  z213 := Tryz.sizeOf361
  t232 := Tryz.underlying394
  a232 := Tryz.isAgg394
  z232 := Tryz.sizeOf394
  v232 := Tryz.zeroValue394
  t233 := Tryz.underlying549
  a233 := Tryz.isAgg549
  z233 := Tryz.sizeOf549
  v233 := Tryz.zeroValue549
  g17 := by kernel_rfl
  g18 := by kernel_rfl
  g19 := by kernel_rfl
  i0 := by kernel_rfl
  i2 := by kernel_rfl
  i3 := by kernel_rfl
  i4 := by kernel_rfl
  i5 := by kernel_rfl
  i9 := by kernel_rfl
  i20 := by kernel_rfl
  i37 := by kernel_rfl
  i46 := by kernel_rfl
  i51 := by kernel_rfl
  i53 := by kernel_rfl
  i171 := by kernel_rfl
  i173 := by kernel_rfl
  i212 := by kernel_rfl
  i232 := by kernel_rfl
  i233 := by kernel_rfl
  m17 := by kernel_rfl
  m18 := by kernel_rfl
  m19 := by kernel_rfl }
end Go.Proofs

/-
  A closed call that hands back a pointer and a number, of which no more is said than that: the evaluator said it.
-/

namespace Go.Abs
open Go Go.RowKit

/-- A pointer to something that lives becomes a pointer to what nobody knows. -/
theorem Ghost.dim {n i o : Nat} {k : IntKind} {m : Int} {H : AHeap} : Ghost n (.tuple [.ptr i o, .int k m]) H (.tuple [.vptr [], .int k m]) (AHeap.empty H.next) := fun _ _ _ _ _ hx hv hR => by
  cases hv with | tuple hl =>
  rename_i us
  cases us with | mk us =>
  simp only at hl
  cases hl with | cons h1 hl =>
  cases h1 with | ptr hp =>
  cases hl with | cons h2 hl =>
  cases h2
  cases hl
  exact ⟨_, hx.trans (all_ext hR), .tuple (.cons (.vptr (.inl rfl) .nil) (.cons (.int _ _) .nil)), all_rel hR⟩
noncomputable def dimK (m : Int) (v : AV) (_ : FH) : Bool := match v with
  | .tuple [.ptr _ _, .int .i64 x] => AV.beq (.int .i64 x) (.int .i64 m)
  | _ => false
theorem dim_does {P : Program} {G : Nat → Option AV} {ov : Ov} {f : FuncId} {fuel n : Nat} {args : List AV} {m : Int} (hm : P.follows .mixedOrders = true) (hp : plainFn P = true) (hov : OvGoodK P G ov) (hG : ∀ g a, G g = some a → a.idLt 0 = true)
    (ha : AV.allLt 0 args = true) (h : fcall ov P G fuel n f args FH.empty (dimK m) = true) (H : AHeap) : Does P G f args H fun r h => r = .tuple [.vptr [], .int .i64 m] ∧ h = H := by
  obtain ⟨v, H', hd, _, hk⟩ := fcall_sound hm hp hov n f args FH.empty _ h
  rw [FH.abs_empty] at hd
  unfold dimK at hk
  split at hk <;> try (simp at hk; done)
  rename_i i o x
  have hk := AV.beq_eq _ _ hk
  cases hk
  have h1 : Does P G f args (AHeap.empty 0) fun y _ => y = .tuple [.vptr [], .int .i64 m] := hd.ghost fun y h ⟨h1, h2⟩ => ⟨_, AHeap.empty H'.abs.next, by subst h1; subst h2; exact Ghost.dim, rfl⟩
  exact (h1.frame ha hG (fun y _ hy => by rw [hy]; rfl) H).mono fun y h ⟨⟨_, h2⟩, h3⟩ => ⟨h2, h3⟩
/-- Some closed calls are known; the others are run. -/
noncomputable def altOv (tab : List (List AV × AV)) (ov : Ov) (P : Program) (G : Nat → Option AV) (fuel n : Nat) (f : FuncId) (args : List AV) (H : FH) (k : AV → FH → Bool) : Bool :=
  ifK (List.rec (motive := fun _ => Bool) false (fun e _ ih => ifK (AV.beqs e.1 args) true ih) tab) (litOv tab args H k) (fcall ov P G fuel n f args H k)
theorem altOv_good {P : Program} {G : Nat → Option AV} {ov : Ov} {f : FuncId} {fuel n : Nat} {tab : List (List AV × AV)} (hm : P.follows .mixedOrders = true) (hp : plainFn P = true) (hov : OvGoodK P G ov)
    (ht : ∀ e ∈ tab, ∀ H, Does P G f e.1 H fun r h => r = e.2 ∧ h = H) (args : List AV) (H : FH) (k : AV → FH → Bool) (h : altOv tab ov P G fuel n f args H k = true) :
    ∃ v H', Does P G f args H.abs (fun r h => r = v ∧ h = FH.abs H') ∧ H.next ≤ H'.next ∧ k v H' = true := by
  unfold altOv at h
  generalize List.rec (motive := fun _ => Bool) false (fun e _ ih => ifK (AV.beqs e.1 args) true ih) tab = b at h
  cases b with
  | true => rw [ifK_true] at h; exact litOv_good ht args H k h
  | false => rw [ifK_false] at h; exact fcall_sound hm hp hov n f args H k h
end Go.Abs

/-
  A simplified meaning for Go code: what simp unfolds on a walk.
-/


namespace Go.Abs
open Go

attribute [simp] awanted ayield acallee aop aallocC alookup afind asame keyed atup amaplen amapput apure aval tput ofConst ofConst1 ofConsts abin aint2 ashift astr2 aeqIn aeqFields aun aconv aslice abounds abound afieldAddr afield aindexAddr aindex aextract alen acap amin amax abuild afill aplaces aagg apart' aread aat acut afirst alenOf abytes aalloc arep aeff aappend acopy aclear ares aresults aresult avals apairs aopt splice Region.isConst undefA isSeq

@[simp] theorem eff_same (H : AHeap) : H.eff .same = H := rfl
@[simp] theorem eff_put (H : AHeap) (i : Nat) (x : AObj) : H.eff (.put i x) = H.set i x := rfl
@[simp] theorem eff_new (H : AHeap) (x : AObj) : H.eff (.new x) = H.push x := rfl
@[simp] theorem eff_move (H : AHeap) (i : Nat) (x : AObj) : H.eff (.move i x) = (H.kill i).push x := rfl
@[simp] theorem scalar_bool (b : Bool) : (AV.bool b).scalar = true := rfl
@[simp] theorem scalar_int (k : IntKind) (n : Int) : (AV.int k n).scalar = true := rfl
@[simp] theorem scalar_str (s : List UInt8) : (AV.str s).scalar = true := rfl
@[simp] theorem scalar_nilptr : AV.nilptr.scalar = true := rfl
@[simp] theorem scalar_ptr (i o : Nat) : (AV.ptr i o).scalar = true := rfl
@[simp] theorem scalar_vptr (c : List AV) : (AV.vptr c).scalar = true := rfl
@[simp] theorem scalar_nilsl : AV.nilsl.scalar = true := rfl
@[simp] theorem scalar_sl (i o z l c : Nat) (b : Bool) : (AV.sl i o z l c b).scalar = true := rfl
@[simp] theorem scalar_vsl (c : List AV) (n : Nat) : (AV.vsl c n).scalar = true := rfl
@[simp] theorem scalar_nilmap : AV.nilmap.scalar = true := rfl
@[simp] theorem scalar_func (f : Fn) (a b : List AV) : (AV.func f a b).scalar = true := rfl
@[simp] theorem scalar_nilfunc : AV.nilfunc.scalar = true := rfl
@[simp] theorem scalar_iface (t : TypeId) (v : AV) : (AV.iface t v).scalar = true := rfl
@[simp] theorem scalar_niliface : AV.niliface.scalar = true := rfl
@[simp] theorem cells_agg (c : List AV) : (AV.agg c).cells = c := rfl
@[simp] theorem cells_bool (b : Bool) : (AV.bool b).cells = [.bool b] := rfl
@[simp] theorem cells_int (k : IntKind) (n : Int) : (AV.int k n).cells = [.int k n] := rfl
@[simp] theorem cells_str (s : List UInt8) : (AV.str s).cells = [.str s] := rfl
@[simp] theorem cells_nilptr : AV.nilptr.cells = [.nilptr] := rfl
@[simp] theorem cells_ptr (i o : Nat) : (AV.ptr i o).cells = [.ptr i o] := rfl
@[simp] theorem cells_vptr (c : List AV) : (AV.vptr c).cells = [.vptr c] := rfl
@[simp] theorem cells_nilsl : AV.nilsl.cells = [.nilsl] := rfl
@[simp] theorem cells_sl (i o z l c : Nat) (b : Bool) : (AV.sl i o z l c b).cells = [.sl i o z l c b] := rfl
@[simp] theorem cells_vsl (c : List AV) (n : Nat) : (AV.vsl c n).cells = [.vsl c n] := rfl
@[simp] theorem scalar_csl (c : List AV) (n : Nat) : (AV.csl c n).scalar = true := rfl
@[simp] theorem cells_csl (c : List AV) (n : Nat) : (AV.csl c n).cells = [.csl c n] := rfl
@[simp] theorem cells_nilmap : AV.nilmap.cells = [.nilmap] := rfl
@[simp] theorem cells_func (f : Fn) (a b : List AV) : (AV.func f a b).cells = [.func f a b] := rfl
@[simp] theorem cells_nilfunc : AV.nilfunc.cells = [.nilfunc] := rfl
@[simp] theorem cells_iface (t : TypeId) (v : AV) : (AV.iface t v).cells = [.iface t v] := rfl
@[simp] theorem cells_niliface : AV.niliface.cells = [.niliface] := rfl
@[simp] theorem cells_tuple (v : List AV) : (AV.tuple v).cells = [.tuple v] := rfl

theorem next_lt {H : AHeap} (hw : H.Wf) {i : Nat} {x : AObj} (h : H.get i = some x) : i < H.next := (hw i x h).1

@[simp] theorem push_set (H : AHeap) (x y : AObj) : (H.push x).set H.next y = H.push y := by
  refine AHeap.ext' rfl fun i => ?_
  simp only [AHeap.get_set, AHeap.get_push]
  split <;> rfl
@[simp] theorem set_set (H : AHeap) (i : Nat) (x y : AObj) : (H.set i x).set i y = H.set i y := AHeap.set_set H i x y

@[simp] theorem int_beq (a b : Int) : (a == b) = decide (a = b) := by
  rw [Bool.eq_iff_iff]; simp

end Go.Abs

/-
  Facts on the types of this program, by program (facts.py).
-/



namespace Go.Proofs
open Go Go.Abs
@[simp] theorem Tryz.asize0 : asize Tryz.prog 0 = some 1 := by kernel_rfl
@[simp] theorem Tryz.info0 : Tryz.prog.info? 0 = some Tryz.t0 := by kernel_rfl
@[simp] theorem Tryz.tsize0 : Tryz.t0.size = 1 := by kernel_rfl
@[simp] theorem Tryz.tbytes0 : Tryz.t0.bytes = 0 := by kernel_rfl
@[simp] theorem Tryz.builder0 : builderTy Tryz.prog 0 = false := by kernel_rfl
@[simp] theorem Tryz.azero0 : azero Tryz.prog 0 = some (.tuple []) := by kernel_rfl
@[simp] theorem Tryz.asize2 : asize Tryz.prog 2 = some 1 := by kernel_rfl
@[simp] theorem Tryz.info2 : Tryz.prog.info? 2 = some Tryz.t2 := by kernel_rfl
@[simp] theorem Tryz.tsize2 : Tryz.t2.size = 1 := by kernel_rfl
@[simp] theorem Tryz.tbytes2 : Tryz.t2.bytes = 8 := by kernel_rfl
@[simp] theorem Tryz.builder2 : builderTy Tryz.prog 2 = false := by kernel_rfl
@[simp] theorem Tryz.azero2 : azero Tryz.prog 2 = some (.int .i64 (0)) := by kernel_rfl
@[simp] theorem Tryz.asize3 : asize Tryz.prog 3 = some 1 := by kernel_rfl
@[simp] theorem Tryz.info3 : Tryz.prog.info? 3 = some Tryz.t3 := by kernel_rfl
@[simp] theorem Tryz.tsize3 : Tryz.t3.size = 1 := by kernel_rfl
@[simp] theorem Tryz.tbytes3 : Tryz.t3.bytes = 8 := by kernel_rfl
@[simp] theorem Tryz.builder3 : builderTy Tryz.prog 3 = false := by kernel_rfl
@[simp] theorem Tryz.azero3 : azero Tryz.prog 3 = some (.int .i64 (0)) := by kernel_rfl
@[simp] theorem Tryz.asize4 : asize Tryz.prog 4 = some 1 := by kernel_rfl
@[simp] theorem Tryz.info4 : Tryz.prog.info? 4 = some Tryz.t4 := by kernel_rfl
@[simp] theorem Tryz.tsize4 : Tryz.t4.size = 1 := by kernel_rfl
@[simp] theorem Tryz.tbytes4 : Tryz.t4.bytes = 1 := by kernel_rfl
@[simp] theorem Tryz.builder4 : builderTy Tryz.prog 4 = false := by kernel_rfl
@[simp] theorem Tryz.azero4 : azero Tryz.prog 4 = some (.bool false) := by kernel_rfl
@[simp] theorem Tryz.asize5 : asize Tryz.prog 5 = some 1 := by kernel_rfl
@[simp] theorem Tryz.info5 : Tryz.prog.info? 5 = some Tryz.t5 := by kernel_rfl
@[simp] theorem Tryz.tsize5 : Tryz.t5.size = 1 := by kernel_rfl
@[simp] theorem Tryz.tbytes5 : Tryz.t5.bytes = 1 := by kernel_rfl
@[simp] theorem Tryz.builder5 : builderTy Tryz.prog 5 = false := by kernel_rfl
@[simp] theorem Tryz.azero5 : azero Tryz.prog 5 = some (.int .u8 (0)) := by kernel_rfl
@[simp] theorem Tryz.asize9 : asize Tryz.prog 9 = some 1 := by kernel_rfl
@[simp] theorem Tryz.info9 : Tryz.prog.info? 9 = some Tryz.t9 := by kernel_rfl
@[simp] theorem Tryz.tsize9 : Tryz.t9.size = 1 := by kernel_rfl
@[simp] theorem Tryz.tbytes9 : Tryz.t9.bytes = 16 := by kernel_rfl
@[simp] theorem Tryz.builder9 : builderTy Tryz.prog 9 = false := by kernel_rfl
@[simp] theorem Tryz.azero9 : azero Tryz.prog 9 = some (.str []) := by kernel_rfl
@[simp] theorem Tryz.asize23 : asize Tryz.prog 23 = some 1 := by kernel_rfl
@[simp] theorem Tryz.info23 : Tryz.prog.info? 23 = some Tryz.t23 := by kernel_rfl
@[simp] theorem Tryz.tsize23 : Tryz.t23.size = 1 := by kernel_rfl
@[simp] theorem Tryz.tbytes23 : Tryz.t23.bytes = 24 := by kernel_rfl
@[simp] theorem Tryz.builder23 : builderTy Tryz.prog 23 = false := by kernel_rfl
@[simp] theorem Tryz.azero23 : azero Tryz.prog 23 = some (.nilsl) := by kernel_rfl
@[simp] theorem Tryz.asize24 : asize Tryz.prog 24 = some 1 := by kernel_rfl
@[simp] theorem Tryz.info24 : Tryz.prog.info? 24 = some Tryz.t24 := by kernel_rfl
@[simp] theorem Tryz.tsize24 : Tryz.t24.size = 1 := by kernel_rfl
@[simp] theorem Tryz.tbytes24 : Tryz.t24.bytes = 8 := by kernel_rfl
@[simp] theorem Tryz.builder24 : builderTy Tryz.prog 24 = false := by kernel_rfl
@[simp] theorem Tryz.azero24 : azero Tryz.prog 24 = some (.int .i64 (0)) := by kernel_rfl
@[simp] theorem Tryz.asize25 : asize Tryz.prog 25 = some 1 := by kernel_rfl
@[simp] theorem Tryz.info25 : Tryz.prog.info? 25 = some Tryz.t25 := by kernel_rfl
@[simp] theorem Tryz.tsize25 : Tryz.t25.size = 1 := by kernel_rfl
@[simp] theorem Tryz.tbytes25 : Tryz.t25.bytes = 0 := by kernel_rfl
@[simp] theorem Tryz.builder25 : builderTy Tryz.prog 25 = false := by kernel_rfl
@[simp] theorem Tryz.azero25 : azero Tryz.prog 25 = some (.tuple [.str [], .int .i64 (0)]) := by kernel_rfl
@[simp] theorem Tryz.asize29 : asize Tryz.prog 29 = some 1 := by kernel_rfl
@[simp] theorem Tryz.info29 : Tryz.prog.info? 29 = some Tryz.t29 := by kernel_rfl
@[simp] theorem Tryz.tsize29 : Tryz.t29.size = 1 := by kernel_rfl
@[simp] theorem Tryz.tbytes29 : Tryz.t29.bytes = 24 := by kernel_rfl
@[simp] theorem Tryz.builder29 : builderTy Tryz.prog 29 = false := by kernel_rfl
@[simp] theorem Tryz.azero29 : azero Tryz.prog 29 = some (.nilsl) := by kernel_rfl
@[simp] theorem Tryz.asize31 : asize Tryz.prog 31 = some 1 := by kernel_rfl
@[simp] theorem Tryz.info31 : Tryz.prog.info? 31 = some Tryz.t31 := by kernel_rfl
@[simp] theorem Tryz.tsize31 : Tryz.t31.size = 1 := by kernel_rfl
@[simp] theorem Tryz.tbytes31 : Tryz.t31.bytes = 0 := by kernel_rfl
@[simp] theorem Tryz.builder31 : builderTy Tryz.prog 31 = false := by kernel_rfl
@[simp] theorem Tryz.azero31 : azero Tryz.prog 31 = some (.tuple [.str [], .nilsl]) := by kernel_rfl
@[simp] theorem Tryz.asize33 : asize Tryz.prog 33 = some 1 := by kernel_rfl
@[simp] theorem Tryz.info33 : Tryz.prog.info? 33 = some Tryz.t33 := by kernel_rfl
@[simp] theorem Tryz.tsize33 : Tryz.t33.size = 1 := by kernel_rfl
@[simp] theorem Tryz.tbytes33 : Tryz.t33.bytes = 24 := by kernel_rfl
@[simp] theorem Tryz.builder33 : builderTy Tryz.prog 33 = false := by kernel_rfl
@[simp] theorem Tryz.azero33 : azero Tryz.prog 33 = some (.nilsl) := by kernel_rfl
@[simp] theorem Tryz.asize34 : asize Tryz.prog 34 = some 1 := by kernel_rfl
@[simp] theorem Tryz.info34 : Tryz.prog.info? 34 = some Tryz.t34 := by kernel_rfl
@[simp] theorem Tryz.tsize34 : Tryz.t34.size = 1 := by kernel_rfl
@[simp] theorem Tryz.tbytes34 : Tryz.t34.bytes = 0 := by kernel_rfl
@[simp] theorem Tryz.builder34 : builderTy Tryz.prog 34 = false := by kernel_rfl
@[simp] theorem Tryz.azero34 : azero Tryz.prog 34 = some (.tuple [.nilsl, .bool false]) := by kernel_rfl
@[simp] theorem Tryz.asize40 : asize Tryz.prog 40 = some 6 := by kernel_rfl
@[simp] theorem Tryz.info40 : Tryz.prog.info? 40 = some Tryz.t40 := by kernel_rfl
@[simp] theorem Tryz.tsize40 : Tryz.t40.size = 6 := by kernel_rfl
@[simp] theorem Tryz.tbytes40 : Tryz.t40.bytes = 144 := by kernel_rfl
@[simp] theorem Tryz.builder40 : builderTy Tryz.prog 40 = false := by kernel_rfl
@[simp] theorem Tryz.azero40 : azero Tryz.prog 40 = some (.agg [.nilsl, .nilsl, .nilsl, .nilsl, .nilsl, .nilsl]) := by kernel_rfl
@[simp] theorem Tryz.asize42 : asize Tryz.prog 42 = some 2 := by kernel_rfl
@[simp] theorem Tryz.info42 : Tryz.prog.info? 42 = some Tryz.t42 := by kernel_rfl
@[simp] theorem Tryz.tsize42 : Tryz.t42.size = 2 := by kernel_rfl
@[simp] theorem Tryz.tbytes42 : Tryz.t42.bytes = 16 := by kernel_rfl
@[simp] theorem Tryz.builder42 : builderTy Tryz.prog 42 = false := by kernel_rfl
@[simp] theorem Tryz.azero42 : azero Tryz.prog 42 = some (.agg [.int .i64 (0), .int .i64 (0)]) := by kernel_rfl
@[simp] theorem Tryz.asize43 : asize Tryz.prog 43 = some 1 := by kernel_rfl
@[simp] theorem Tryz.info43 : Tryz.prog.info? 43 = some Tryz.t43 := by kernel_rfl
@[simp] theorem Tryz.tsize43 : Tryz.t43.size = 1 := by kernel_rfl
@[simp] theorem Tryz.tbytes43 : Tryz.t43.bytes = 0 := by kernel_rfl
@[simp] theorem Tryz.builder43 : builderTy Tryz.prog 43 = false := by kernel_rfl
@[simp] theorem Tryz.asize46 : asize Tryz.prog 46 = some 1 := by kernel_rfl
@[simp] theorem Tryz.info46 : Tryz.prog.info? 46 = some Tryz.t46 := by kernel_rfl
@[simp] theorem Tryz.tsize46 : Tryz.t46.size = 1 := by kernel_rfl
@[simp] theorem Tryz.tbytes46 : Tryz.t46.bytes = 8 := by kernel_rfl
@[simp] theorem Tryz.builder46 : builderTy Tryz.prog 46 = false := by kernel_rfl
@[simp] theorem Tryz.azero46 : azero Tryz.prog 46 = some (.nilptr) := by kernel_rfl
@[simp] theorem Tryz.asize47 : asize Tryz.prog 47 = some 1 := by kernel_rfl
@[simp] theorem Tryz.info47 : Tryz.prog.info? 47 = some Tryz.t47 := by kernel_rfl
@[simp] theorem Tryz.tsize47 : Tryz.t47.size = 1 := by kernel_rfl
@[simp] theorem Tryz.tbytes47 : Tryz.t47.bytes = 0 := by kernel_rfl
@[simp] theorem Tryz.builder47 : builderTy Tryz.prog 47 = false := by kernel_rfl
@[simp] theorem Tryz.azero47 : azero Tryz.prog 47 = some (.tuple [.nilptr, .int .i64 (0)]) := by kernel_rfl
@[simp] theorem Tryz.asize49 : asize Tryz.prog 49 = some 1 := by kernel_rfl
@[simp] theorem Tryz.info49 : Tryz.prog.info? 49 = some Tryz.t49 := by kernel_rfl
@[simp] theorem Tryz.tsize49 : Tryz.t49.size = 1 := by kernel_rfl
@[simp] theorem Tryz.tbytes49 : Tryz.t49.bytes = 8 := by kernel_rfl
@[simp] theorem Tryz.builder49 : builderTy Tryz.prog 49 = false := by kernel_rfl
@[simp] theorem Tryz.azero49 : azero Tryz.prog 49 = some (.nilptr) := by kernel_rfl
@[simp] theorem Tryz.asize51 : asize Tryz.prog 51 = some 8 := by kernel_rfl
@[simp] theorem Tryz.info51 : Tryz.prog.info? 51 = some Tryz.t51 := by kernel_rfl
@[simp] theorem Tryz.tsize51 : Tryz.t51.size = 8 := by kernel_rfl
@[simp] theorem Tryz.tbytes51 : Tryz.t51.bytes = 168 := by kernel_rfl
@[simp] theorem Tryz.builder51 : builderTy Tryz.prog 51 = false := by kernel_rfl
@[simp] theorem Tryz.azero51 : azero Tryz.prog 51 = some (.agg [.str [], .nilsl, .nilsl, .nilsl, .nilsl, .nilsl, .nilsl, .nilptr]) := by kernel_rfl
@[simp] theorem Tryz.asize54 : asize Tryz.prog 54 = some 2 := by kernel_rfl
@[simp] theorem Tryz.info54 : Tryz.prog.info? 54 = some Tryz.t54 := by kernel_rfl
@[simp] theorem Tryz.tsize54 : Tryz.t54.size = 2 := by kernel_rfl
@[simp] theorem Tryz.tbytes54 : Tryz.t54.bytes = 32 := by kernel_rfl
@[simp] theorem Tryz.builder54 : builderTy Tryz.prog 54 = true := by kernel_rfl
@[simp] theorem Tryz.azero54 : azero Tryz.prog 54 = some (.agg [.nilptr, .nilsl]) := by kernel_rfl
@[simp] theorem Tryz.asize55 : asize Tryz.prog 55 = some 1 := by kernel_rfl
@[simp] theorem Tryz.info55 : Tryz.prog.info? 55 = some Tryz.t55 := by kernel_rfl
@[simp] theorem Tryz.tsize55 : Tryz.t55.size = 1 := by kernel_rfl
@[simp] theorem Tryz.tbytes55 : Tryz.t55.bytes = 24 := by kernel_rfl
@[simp] theorem Tryz.builder55 : builderTy Tryz.prog 55 = false := by kernel_rfl
@[simp] theorem Tryz.azero55 : azero Tryz.prog 55 = some (.nilsl) := by kernel_rfl
@[simp] theorem Tryz.asize58 : asize Tryz.prog 58 = some 3 := by kernel_rfl
@[simp] theorem Tryz.info58 : Tryz.prog.info? 58 = some Tryz.t58 := by kernel_rfl
@[simp] theorem Tryz.tsize58 : Tryz.t58.size = 3 := by kernel_rfl
@[simp] theorem Tryz.tbytes58 : Tryz.t58.bytes = 64 := by kernel_rfl
@[simp] theorem Tryz.builder58 : builderTy Tryz.prog 58 = false := by kernel_rfl
@[simp] theorem Tryz.azero58 : azero Tryz.prog 58 = some (.agg [.str [], .nilsl, .nilsl]) := by kernel_rfl
@[simp] theorem Tryz.asize60 : asize Tryz.prog 60 = some 1 := by kernel_rfl
@[simp] theorem Tryz.info60 : Tryz.prog.info? 60 = some Tryz.t60 := by kernel_rfl
@[simp] theorem Tryz.tsize60 : Tryz.t60.size = 1 := by kernel_rfl
@[simp] theorem Tryz.tbytes60 : Tryz.t60.bytes = 16 := by kernel_rfl
@[simp] theorem Tryz.builder60 : builderTy Tryz.prog 60 = false := by kernel_rfl
@[simp] theorem Tryz.azero60 : azero Tryz.prog 60 = some (.niliface) := by kernel_rfl
@[simp] theorem Tryz.asize61 : asize Tryz.prog 61 = some 1 := by kernel_rfl
@[simp] theorem Tryz.info61 : Tryz.prog.info? 61 = some Tryz.t61 := by kernel_rfl
@[simp] theorem Tryz.tsize61 : Tryz.t61.size = 1 := by kernel_rfl
@[simp] theorem Tryz.tbytes61 : Tryz.t61.bytes = 0 := by kernel_rfl
@[simp] theorem Tryz.builder61 : builderTy Tryz.prog 61 = false := by kernel_rfl
@[simp] theorem Tryz.azero61 : azero Tryz.prog 61 = some (.tuple [.int .i64 (0), .niliface]) := by kernel_rfl
@[simp] theorem Tryz.asize70 : asize Tryz.prog 70 = some 1 := by kernel_rfl
@[simp] theorem Tryz.info70 : Tryz.prog.info? 70 = some Tryz.t70 := by kernel_rfl
@[simp] theorem Tryz.tsize70 : Tryz.t70.size = 1 := by kernel_rfl
@[simp] theorem Tryz.tbytes70 : Tryz.t70.bytes = 0 := by kernel_rfl
@[simp] theorem Tryz.builder70 : builderTy Tryz.prog 70 = false := by kernel_rfl
@[simp] theorem Tryz.asize204 : asize Tryz.prog 204 = some 1 := by kernel_rfl
@[simp] theorem Tryz.info204 : Tryz.prog.info? 204 = some Tryz.t204 := by kernel_rfl
@[simp] theorem Tryz.tsize204 : Tryz.t204.size = 1 := by kernel_rfl
@[simp] theorem Tryz.tbytes204 : Tryz.t204.bytes = 8 := by kernel_rfl
@[simp] theorem Tryz.builder204 : builderTy Tryz.prog 204 = false := by kernel_rfl
@[simp] theorem Tryz.azero204 : azero Tryz.prog 204 = some (.nilptr) := by kernel_rfl
@[simp] theorem Tryz.asize240 : asize Tryz.prog 240 = some 4 := by kernel_rfl
@[simp] theorem Tryz.info240 : Tryz.prog.info? 240 = some Tryz.t240 := by kernel_rfl
@[simp] theorem Tryz.tsize240 : Tryz.t240.size = 4 := by kernel_rfl
@[simp] theorem Tryz.tbytes240 : Tryz.t240.bytes = 40 := by kernel_rfl
@[simp] theorem Tryz.builder240 : builderTy Tryz.prog 240 = false := by kernel_rfl
@[simp] theorem Tryz.azero240 : azero Tryz.prog 240 = some (.agg [.int .i64 (0), .str [], .int .i64 (0), .int .i64 (0)]) := by kernel_rfl
@[simp] theorem Tryz.asize367 : asize Tryz.prog 367 = some 1 := by kernel_rfl
@[simp] theorem Tryz.info367 : Tryz.prog.info? 367 = some Tryz.t367 := by kernel_rfl
@[simp] theorem Tryz.tsize367 : Tryz.t367.size = 1 := by kernel_rfl
@[simp] theorem Tryz.tbytes367 : Tryz.t367.bytes = 8 := by kernel_rfl
@[simp] theorem Tryz.builder367 : builderTy Tryz.prog 367 = false := by kernel_rfl
@[simp] theorem Tryz.azero367 : azero Tryz.prog 367 = some (.nilptr) := by kernel_rfl
@[simp] theorem Tryz.asize424 : asize Tryz.prog 424 = some 256 := by kernel_rfl
@[simp] theorem Tryz.info424 : Tryz.prog.info? 424 = some Tryz.t424 := by kernel_rfl
@[simp] theorem Tryz.tsize424 : Tryz.t424.size = 256 := by kernel_rfl
@[simp] theorem Tryz.tbytes424 : Tryz.t424.bytes = 256 := by kernel_rfl
@[simp] theorem Tryz.builder424 : builderTy Tryz.prog 424 = false := by kernel_rfl
@[simp] theorem Tryz.asize456 : asize Tryz.prog 456 = some 1 := by kernel_rfl
@[simp] theorem Tryz.info456 : Tryz.prog.info? 456 = some Tryz.t456 := by kernel_rfl
@[simp] theorem Tryz.tsize456 : Tryz.t456.size = 1 := by kernel_rfl
@[simp] theorem Tryz.tbytes456 : Tryz.t456.bytes = 8 := by kernel_rfl
@[simp] theorem Tryz.builder456 : builderTy Tryz.prog 456 = false := by kernel_rfl
@[simp] theorem Tryz.azero456 : azero Tryz.prog 456 = some (.nilptr) := by kernel_rfl
@[simp] theorem Tryz.asize529 : asize Tryz.prog 529 = some 1 := by kernel_rfl
@[simp] theorem Tryz.info529 : Tryz.prog.info? 529 = some Tryz.t529 := by kernel_rfl
@[simp] theorem Tryz.tsize529 : Tryz.t529.size = 1 := by kernel_rfl
@[simp] theorem Tryz.tbytes529 : Tryz.t529.bytes = 8 := by kernel_rfl
@[simp] theorem Tryz.builder529 : builderTy Tryz.prog 529 = false := by kernel_rfl
@[simp] theorem Tryz.azero529 : azero Tryz.prog 529 = some (.int .i64 (0)) := by kernel_rfl
@[simp] theorem Tryz.asize591 : asize Tryz.prog 591 = some 3 := by kernel_rfl
@[simp] theorem Tryz.info591 : Tryz.prog.info? 591 = some Tryz.t591 := by kernel_rfl
@[simp] theorem Tryz.tsize591 : Tryz.t591.size = 3 := by kernel_rfl
@[simp] theorem Tryz.tbytes591 : Tryz.t591.bytes = 48 := by kernel_rfl
@[simp] theorem Tryz.builder591 : builderTy Tryz.prog 591 = false := by kernel_rfl
@[simp] theorem Tryz.azero591 : azero Tryz.prog 591 = some (.agg [.str [], .str [], .niliface]) := by kernel_rfl
end Go.Proofs

/-
  Functions of Go's library on strings, walked: HasPrefix, TrimLeft, IndexByte, Contains, slices.Contains.
-/



namespace Go.Proofs.YtajcehcdmbfhaaaGreatDoor
open Go Go.Abs Go.Lex
variable {G : Nat → Option AV}

theorem hasPrefixL (s p : List UInt8) (H : AHeap) : Does Tryz.prog G 183 [.str s, .str p] H fun r H' => r = .bool (p.isPrefixOf s) ∧ H' = H := by
  refine does_f Tryz.call183 Tryz.func183 rfl (by simp [Tryz.f183]) ?_
  by_cases h : p.length ≤ s.length
  · have h1 : (p.length : Int) ≤ s.length := by omega
    simp [h, h1]
    rw [Bool.eq_iff_iff, List.isPrefixOf_iff_prefix, List.prefix_iff_eq_take]
    simp
    exact eq_comm
  · have h1 : ¬ (p.length : Int) ≤ s.length := by omega
    have h2 : p.isPrefixOf s = false := by
      rw [Bool.eq_false_iff]
      intro e
      exact h (List.isPrefixOf_iff_prefix.1 e).length_le
    simp [h, h1, h2]

theorem hasPrefix (s p : List UInt8) (H : AHeap) : Does Tryz.prog G 94 [.str s, .str p] H fun r H' => r = .bool (p.isPrefixOf s) ∧ H' = H := by
  refine does_f Tryz.call94 Tryz.func94 rfl (by simp [Tryz.f94]) ?_
  simp
  refine does_use (hasPrefixL s p H) ?_
  rintro _ _ ⟨rfl, rfl⟩
  simp

theorem asciiContains (H : AHeap) (i : Nat) (cs : List AV) (b : UInt8) (v : Bool) (h : H.get i = some (.cells cs)) (hl : cs.length = 256) (hv : cs[b.toNat]? = some (.bool v)) :
    Does Tryz.prog G 382 [.ptr i 0, .int .u8 b.toNat] H fun r H' => r = .bool v ∧ H' = H := by
  have hb := b.toNat_lt
  have h1 : (b.toNat : Int) < 256 := by omega
  have h2 : b.toNat ≤ 256 := by omega
  refine does_f Tryz.call382 Tryz.func382 rfl (by simp [Tryz.f382]) ?_
  simp [h, hl, hv, h1, h2]

/-- The cells of a set of bytes. -/
def asciiCells (l : List UInt8) : List AV := (List.range 256).map fun k => .bool (l.any fun b => b.toNat == k)
@[simp] theorem asciiCells_length (l : List UInt8) : (asciiCells l).length = 256 := by simp [asciiCells]
theorem asciiCells_get (l : List UInt8) (b : UInt8) : (asciiCells l)[b.toNat]? = some (.bool (l.contains b)) := by
  have hb := b.toNat_lt
  simp only [asciiCells, List.getElem?_map]
  rw [List.getElem?_range hb]
  simp only [Option.map_some, Option.some.injEq, AV.bool.injEq]
  rw [Bool.eq_iff_iff]
  simp only [List.any_eq_true, beq_iff_eq, List.contains_iff_mem]
  constructor
  · rintro ⟨x, hx, e⟩
    rw [← UInt8.toNat_inj.1 e]; exact hx
  · intro h; exact ⟨b, h, rfl⟩
theorem asciiCells_set (l : List UInt8) (b : UInt8) : (asciiCells l).set b.toNat (.bool true) = asciiCells (l ++ [b]) := by
  apply List.ext_getElem?
  intro k
  rw [List.getElem?_set]
  simp only [asciiCells, List.getElem?_map, List.length_map, List.length_range]
  by_cases hk : k < 256
  · rw [List.getElem?_range hk]
    by_cases e : b.toNat = k
    · subst e; simp [hk]
    · rw [if_neg e]
      simp [e]
  · have : (List.range 256)[k]? = none := List.getElem?_eq_none (by simp; omega)
    rw [this]
    split <;> simp
    omega
theorem asciiCells_nil : asciiCells [] = List.replicate 256 (.bool false) := by
  apply List.ext_getElem?
  intro k
  simp only [asciiCells, List.getElem?_map, List.getElem?_replicate]
  by_cases hk : k < 256
  · rw [List.getElem?_range hk, if_pos hk]; rfl
  · rw [List.getElem?_eq_none (by rw [List.length_range]; omega), if_neg hk]; rfl
end Go.Proofs.YtajcehcdmbfhaaaGreatDoor

/-
  A simplified meaning for Go code: loops on a walk by simp; a closed call over any heap.
-/

namespace Go.Abs
open Go

theorem aws_loop {X : Ctx} {c : Code} {Q : Post} {T : Nat → AV} {H : AHeap} (I : Nat → (Nat → AV) → AHeap → Prop) (n : Nat) (h0 : I n T H)
    (round : ∀ n T H, I n T H → @AWf ⟨X⟩ ⟨c⟩ ⟨QThen (fun T' H' => ∃ m, m < n ∧ I m T' H') Q⟩ ⟨T⟩ H) : @AWs ⟨X⟩ ⟨.loop c⟩ ⟨Q⟩ ⟨T⟩ H :=
  aw_loop I n h0 fun n T H h => awf_of (round n T H h)

/-- What is there when code runs is well formed. -/
theorem aw_wf {P : Program} {G : Nat → Option AV} {N : Nat} {c : Code} {Q : Post} {T : Nat → AV} {H : AHeap} (h : H.Wf → (∀ t, (T t).idLt H.next = true) → AW P G N c Q T H) : AW P G N c Q T H := by
  intro E0 a w hG hs
  obtain ⟨⟨E, hx, hR, hT⟩, hd⟩ := hs
  exact h hR.wf (fun t => VRel.idLt hR.dom (hT.rel t)) E0 a w hG ⟨⟨E, hx, hR, hT⟩, hd⟩

/-- A loop, with what is well formed at each round's head. -/
theorem aws_loopw {X : Ctx} {c : Code} {Q : Post} {T : Nat → AV} {H : AHeap} (I : Nat → (Nat → AV) → AHeap → Prop) (n : Nat) (h0 : I n T H)
    (round : ∀ n T H, I n T H → H.Wf → (∀ t, (T t).idLt H.next = true) → @AWf ⟨X⟩ ⟨c⟩ ⟨QThen (fun T' H' => ∃ m, m < n ∧ I m T' H') Q⟩ ⟨T⟩ H) : @AWs ⟨X⟩ ⟨.loop c⟩ ⟨Q⟩ ⟨T⟩ H :=
  aw_loop I n h0 fun n T H h => aw_wf fun hw ht => awf_of (round n T H h hw ht)

theorem over_empty (H : AHeap) : (AHeap.empty 0).over H = H := by
  refine AHeap.ext' rfl fun i => ?_
  show (match H.get i with | some x => some x | none => none) = H.get i
  cases H.get i <;> rfl

/-- A call without arguments that answers b over the empty heap does so over any heap. -/
theorem Does.closed {P : Program} {f : FuncId} {b : Bool} (h : Does P (fun _ => none) f [] (AHeap.empty 0) fun r _ => r = .bool b) (H : AHeap) : Does P (fun _ => none) f [] H fun r H' => r = .bool b ∧ H' = H := by
  refine ⟨fun E w vs hR hG hv => ?_⟩
  have hR' : Rel E ((AHeap.empty 0).over H) w := by rw [over_empty]; exact hR
  have ha : Rel (E.aside H w 0) (AHeap.empty 0) w := Rel.aside hR' (fun _ _ _ => Nat.zero_le _) (fun i x hi => by simp [AHeap.empty] at hi) (fun i x hi => by simp [AHeap.empty] at hi)
  cases hv
  refine (h.run _ w [] ha (fun _ _ h => by simp at h) .nil).mono ?_
  rintro v w' ⟨r, H', E', rfl, hx, hvr, hR2⟩
  cases hvr
  refine ⟨.bool b, H, E, ⟨rfl, rfl⟩, Ext.refl E, .bool b, ?_⟩
  refine ⟨hR2.os.trans hx.os, hR2.out.trans hx.out, fun B o hB => hR2.K _ _ (hx.K B o hB), fun B o hB => ?_, hR.KF, hR.dom, fun i x hi => ?_, hR.inj⟩
  · refine hR2.F _ _ ?_
    rw [hx.F]
    simp only [Env.aside, hB]
  · obtain ⟨p, ob, g1, g2, g3, g4, g5⟩ := hR.live i x hi
    refine ⟨p, ob, g1, g2, g3, hR2.F _ _ ?_, g5⟩
    rw [hx.F]
    simp only [Env.aside, g3]
    rw [if_pos ⟨i, x, p, hi, g1, rfl⟩]
    exact g4
end Go.Abs

/-
  Functions of Go's library on strings, walked: TrimLeft, IndexByte, Contains, slices.Contains.
-/


namespace Go.Proofs.YtajcehcdmbfhaaaGreatDoor
open Go Go.Abs Go.Lex
variable {G : Nat → Option AV}

@[simp] theorem take_ascii (l : List UInt8) : List.take 256 (asciiCells l) = asciiCells l := by rw [List.take_of_length_le]; simp

@[simp] theorem zeroSet : azero Tryz.prog 424 = some (.agg (asciiCells [])) := by kernel_rfl

@[simp] theorem drop_ascii (l : List UInt8) : List.drop 256 (asciiCells l) = [] := by rw [List.drop_of_length_le]; simp
@[simp] theorem ascii_scalar (l : List UInt8) : (∀ x ∈ asciiCells l, x.scalar = true) = True := by
  simp only [eq_iff_iff, iff_true]
  intro x hx
  simp only [asciiCells, List.mem_map] at hx
  obtain ⟨k, _, rfl⟩ := hx
  rfl
theorem ascii_splice (l : List UInt8) (c : UInt8) : List.take c.toNat (asciiCells l) ++ AV.bool true :: List.drop (c.toNat + 1) (asciiCells l) = asciiCells (l ++ [c]) := by
  have hc := c.toNat_lt
  rw [← asciiCells_set, List.set_eq_take_append_cons_drop, if_pos (by rw [asciiCells_length]; omega)]

theorem makeSet (chars : List UInt8) (hc : ∀ b ∈ chars, b.toNat < 128) (hl : chars.length ≤ 1000000) (H : AHeap) : Does Tryz.prog G 272 [.str chars] H fun r H' => r = .tuple [.agg (asciiCells chars), .bool true] ∧ H' = H.push (.cells (asciiCells chars)) := by
  refine does_f Tryz.call272 Tryz.func272 rfl (by simp [Tryz.f272]) ?_
  simp
  refine aws_loop (fun m T' H' => ∃ a b, chars = a ++ b ∧ m = b.length ∧ T' 0 = .str chars ∧ T' 2 = .ptr H.next 0 ∧ T' 4 = .int .i64 a.length ∧ H' = H.push (.cells (asciiCells a))) chars.length ⟨[], chars, rfl, rfl, by simp⟩ ?_
  rintro m T H' ⟨a, b, rfl, rfl, h0, h2, h4, rfl⟩
  cases b with
  | nil => simp [h0, h2, h4]
  | cons c b =>
    have hlt : (a.length : Int) < a.length + (b.length + 1) := by omega
    have hc1 : c.toNat < 128 := hc c (by simp)
    have hc2 : ¬ (128 : Int) ≤ c.toNat := by omega
    have hc3 : (c.toNat : Int) < 256 := by omega
    have hc4 : c.toNat ≤ 255 := by omega
    have hw : IntKind.i64.wrap ((a.length : Int) + 1) = a.length + 1 := by
      simp only [List.length_append, List.length_cons] at hl
      exact IntWalk.i64_in _ (by omega)
    simp [h0, h2, h4, hlt, hc2, hc3, hc4, ascii_splice, hw]
    refine ⟨b.length, by omega, a ++ [c], b, by simp, rfl, ?_⟩
    simp

theorem trimASCII (s set : List UInt8) (p : UInt8 → Bool) (hp : ∀ b, set.contains b = p b) (i : Nat) (H : AHeap) (h : H.get i = some (.cells (asciiCells set))) : Does Tryz.prog G 273 [.str s, .ptr i 0] H fun r H' => r = .str (s.dropWhile p) ∧ H' = H := by
  refine does_f Tryz.call273 Tryz.func273 rfl (by simp [Tryz.f273]) ?_
  simp
  refine aws_loop (fun m T' H' => ∃ q : List UInt8, s.dropWhile p = q.dropWhile p ∧ m = q.length ∧ T' 0 = .str q ∧ T' 1 = .ptr i 0 ∧ H' = H) s.length ⟨s, rfl, rfl, by simp⟩ ?_
  rintro m T H' ⟨q, hq, rfl, h0, h1, rfl⟩
  rw [hq]
  cases q with
  | nil => simp [h0, h1]
  | cons b q =>
    have hl : (0 : Int) < q.length + 1 := by omega
    have hl2 : (1 : Int) ≤ q.length + 1 := by omega
    simp [h0, h1, hl]
    refine does_use (asciiContains H' i _ b _ h (by simp) (asciiCells_get set b)) ?_
    rintro _ _ ⟨rfl, rfl⟩
    rw [hp]
    cases hb : p b with
    | true =>
      simp [h0, h1, hb, hl, hl2]
    | false => simp [h0, h1, hb]

theorem trimLeft (s set : List UInt8) (p : UInt8 → Bool) (hp : ∀ b, set.contains b = p b) (hc : ∀ b ∈ set, b.toNat < 128) (hl : set.length ≤ 1000000) (h2 : 2 ≤ set.length) (H : AHeap) : Does Tryz.prog G 390 [.str s, .str set] H fun r H' => r = .str (s.dropWhile p) ∧ H' = H := by
  refine Does.forgot (R := fun r H' => r = .str (s.dropWhile p) ∧ ∀ j x, H.get j = some x → H'.get j = some x) ?_ ?_
  · refine Does.wf Tryz.call390 fun hw _ => ?_
    have old : ∀ j x, H.get j = some x → j ≠ H.next ∧ j ≠ H.next + 1 := fun j x hj => by have := next_lt hw hj; omega
    refine does_f Tryz.call390 Tryz.func390 rfl (by simp [Tryz.f390]) ?_
    have hne : set ≠ [] := fun e => by subst e; simp at h2
    have hn1 : ¬ (set.length : Int) = 1 := by omega
    cases hs : s with
    | nil => simp
    | cons b q =>
      rw [← hs]
      have hs1 : s.isEmpty = false := by rw [hs]; rfl
      have hs2 : set.isEmpty = false := by cases set <;> simp_all
      simp [hs1, hs2, hn1]
      refine does_use (makeSet set hc hl H) ?_
      rintro _ _ ⟨rfl, rfl⟩
      simp
      refine does_use (trimASCII s set p hp _ _ (by simp)) ?_
      rintro _ _ ⟨rfl, rfl⟩
      simp
      intro j x hj
      simp [hj, old j x hj]
  · rintro hw ha r H1 ⟨rfl, h⟩
    exact ⟨h, rfl, rfl, rfl⟩

/-- IndexByteString, the model's own. -/
theorem isIdx : IsIdx Tryz.prog 380 := ⟨⟨Tryz.f380, Tryz.func380, by kernel_rfl, by kernel_rfl, by kernel_rfl, by kernel_rfl⟩⟩

/-- Where a byte stands first; -1: nowhere. -/
def idxB (s : List UInt8) (c : UInt8) : Int := match s.findIdx? (fun b => b == c) with
  | some i => i
  | none => -1

theorem idxB_eq (c : UInt8) : ∀ s : List UInt8, Go.Lib.indexByte s c = idxB s c
  | [] => rfl
  | b :: s => by
    rw [indexByte_cases, idxB_eq c s]
    unfold idxB
    rw [List.findIdx?_cons]
    by_cases h : b = c
    · subst h; simp
    · simp only [h, if_false, beq_iff_eq]
      cases hf : List.findIdx? (fun b => b == c) s with
      | none => simp
      | some i =>
        simp only [Option.map_some]
        rw [if_neg (by omega)]
        omega

theorem indexByteL (s : List UInt8) (c : UInt8) (H : AHeap) : Does Tryz.prog G 264 [.str s, .int .u8 c.toNat] H fun r H' => r = .int .i64 (idxB s c) ∧ H' = H := by
  refine does_f Tryz.call264 Tryz.func264 rfl (by simp [Tryz.f264]) ?_
  simp
  refine does_use (idx_does isIdx s c.toNat H) ?_
  rintro _ _ ⟨rfl, rfl⟩
  have e : ((c.toNat : Int).toNat).toUInt8 = c := by simp
  rw [e, idxB_eq]
  simp

theorem indexByte (s : List UInt8) (c : UInt8) (H : AHeap) : Does Tryz.prog G 281 [.str s, .int .u8 c.toNat] H fun r H' => r = .int .i64 (idxB s c) ∧ H' = H := by
  refine does_f Tryz.call281 Tryz.func281 rfl (by simp [Tryz.f281]) ?_
  simp
  refine does_use (indexByteL s c H) ?_
  rintro _ _ ⟨rfl, rfl⟩
  simp

theorem index1L (s : List UInt8) (c : UInt8) (H : AHeap) : Does Tryz.prog G 178 [.str s, .str [c]] H fun r H' => r = .int .i64 (idxB s c) ∧ H' = H := by
  refine does_f Tryz.call178 Tryz.func178 rfl (by simp [Tryz.f178]) ?_
  by_cases h : [c] = s
  · subst h
    simp [idxB]
  · have h1 : ([c] == s) = false := by simpa using h
    simp [h1]
    refine does_use (indexByteL s c H) ?_
    rintro _ _ ⟨rfl, rfl⟩
    simp

theorem contains1 (s : List UInt8) (c : UInt8) (H : AHeap) : Does Tryz.prog G 282 [.str s, .str [c]] H fun r H' => r = .bool (s.contains c) ∧ H' = H := by
  have hk : ∀ H : AHeap, Does Tryz.prog G 89 [.str s, .str [c]] H fun r H' => r = .int .i64 (idxB s c) ∧ H' = H := by
    intro H
    refine does_f Tryz.call89 Tryz.func89 rfl (by simp [Tryz.f89]) ?_
    simp
    refine does_use (index1L s c H) ?_
    rintro _ _ ⟨rfl, rfl⟩
    simp
  refine does_f Tryz.call282 Tryz.func282 rfl (by simp [Tryz.f282]) ?_
  simp
  refine does_use (hk H) ?_
  rintro _ _ ⟨rfl, rfl⟩
  simp
  unfold idxB
  cases hf : s.findIdx? (fun b => b == c) with
  | none =>
    rw [List.findIdx?_eq_none_iff] at hf
    have : c ∉ s := fun h => by have := hf c h; simp at this
    simp [this]
  | some i =>
    have h := List.findIdx?_eq_some_iff_getElem.1 hf
    obtain ⟨hi, h1, _⟩ := h
    have : c ∈ s := by
      have e : s[i] = c := by simpa using h1
      rw [← e]; exact List.getElem_mem hi
    simp [this]
end Go.Proofs.YtajcehcdmbfhaaaGreatDoor

/-
  Texts cut at a byte: strings.Index, Count, TrimSuffix, Split.
-/


namespace Go.Proofs.YtajcehcdmbfhaaaGreatDoor
open Go Go.Abs Go.Lex
variable {G : Nat → Option AV}

/-! ### rows -/
def rowsB (c : UInt8) : List UInt8 → List (List UInt8)
  | [] => [[]]
  | b :: l => if b = c then [] :: rowsB c l else match rowsB c l with
    | [] => [[b]]
    | r :: rs => (b :: r) :: rs
theorem idxB_cons (b : UInt8) (l : List UInt8) (c : UInt8) : idxB (b :: l) c = if b = c then 0 else if idxB l c = -1 then -1 else idxB l c + 1 := by
  rw [← idxB_eq, indexByte_cases, idxB_eq]
theorem cnt_cons (b : UInt8) (l : List UInt8) (c : UInt8) : Go.Lib.countByte (b :: l) c = (if b = c then 1 else 0) + Go.Lib.countByte l c := by
  simp [Go.Lib.countByte, List.count_cons]
  split <;> omega
theorem rowsB_cut (c : UInt8) : ∀ s : List UInt8, (idxB s c = -1 ∧ rowsB c s = [s] ∧ Go.Lib.countByte s c = 0) ∨
    ∃ i : Nat, idxB s c = i ∧ i < s.length ∧ rowsB c s = s.take i :: rowsB c (s.drop (i + 1)) ∧ Go.Lib.countByte s c = Go.Lib.countByte (s.drop (i + 1)) c + 1
  | [] => .inl ⟨rfl, rfl, rfl⟩
  | b :: l => by
    rw [idxB_cons, cnt_cons, rowsB]
    by_cases h : b = c
    · right
      exact ⟨0, by simp [h], by simp, by simp [h], by simp [h]; omega⟩
    · simp only [h, if_false]
      rcases rowsB_cut c l with ⟨h1, h2, h3⟩ | ⟨i, h1, h2, h3, h4⟩
      · left
        rw [h2, h1, h3]
        simp
      · right
        refine ⟨i + 1, ?_, by simp; omega, ?_, ?_⟩
        · rw [h1, if_neg (by omega)]; omega
        · rw [h3]; simp
        · rw [h4]; simp
theorem rowsB_len (c : UInt8) (s : List UInt8) : (rowsB c s).length = Go.Lib.countByte s c + 1 := by
  induction s with
  | nil => rfl
  | cons b l ih =>
    rw [rowsB, cnt_cons]
    by_cases h : b = c
    · simp only [h, if_true, List.length_cons, ih]; omega
    · simp only [h, if_false]
      cases hr : rowsB c l with
      | nil => rw [hr] at ih; simp at ih
      | cons r rs => rw [hr] at ih; simp at ih ⊢; omega
theorem cnt_le (c : UInt8) (s : List UInt8) : Go.Lib.countByte s c ≤ s.length := by
  induction s with
  | nil => simp [Go.Lib.countByte]
  | cons b l ih =>
    rw [cnt_cons]
    simp only [List.length_cons]
    split <;> omega

/-! ### Index, Count, TrimSuffix -/
theorem index_does (s : List UInt8) (c : UInt8) (H : AHeap) : Does Tryz.prog G 89 [.str s, .str [c]] H fun r h => r = .int .i64 (idxB s c) ∧ h = H := by
  refine does_f Tryz.call89 Tryz.func89 rfl (by simp [Tryz.f89]) ?_
  simp
  refine does_use (index1L s c H) ?_
  rintro _ _ ⟨rfl, rfl⟩
  simp
theorem isCnt : IsCnt Tryz.prog 180 := ⟨⟨Tryz.f180, Tryz.func180, by kernel_rfl, by kernel_rfl, by kernel_rfl, by kernel_rfl⟩⟩
theorem count_does (s : List UInt8) (c : UInt8) (H : AHeap) : Does Tryz.prog G 91 [.str s, .str [c]] H fun r h => r = .int .i64 (Go.Lib.countByte s c : Nat) ∧ h = H := by
  refine does_f Tryz.call91 Tryz.func91 rfl (by simp [Tryz.f91]) ?_
  simp
  refine does_use (cnt_does isCnt s c.toNat H) ?_
  rintro _ _ ⟨rfl, rfl⟩
  have e : ((c.toNat : Int).toNat).toUInt8 = c := by simp
  rw [e]
  simp
end Go.Proofs.YtajcehcdmbfhaaaGreatDoor

/-
  script.split: a range over strings.SplitSeq.
-/


namespace Go.Proofs.YtajcehcdmbfhaaaGreatDoor
open Go Go.Abs Go.Lex
variable {G : Nat → Option AV}

theorem mixJ : Tryz.prog.follows .mixedOrders = true := by kernel_rfl
def bord : List UInt8 := [45, 45, 45]
/-- Where the row stands that parts a program from its lines. -/
def findB : Nat → List (List UInt8) → Option Nat
  | _, [] => none
  | at_, r :: rs => if r = bord then some at_ else findB (at_ + r.length + 1) rs
def restB (text : List UInt8) (at_ : Nat) : List UInt8 := text.drop (min (at_ + 4) text.length)
def rowsV (text : List UInt8) (v : AV) (at_ : Nat) : AV := if restB text at_ = [] then .nilsl else v
def splitA (text : List UInt8) (v : AV) : AV := match findB 0 (rowsB 10 text) with
  | none => .tuple [.str text, .nilsl]
  | some at_ => .tuple [.str (text.take at_), rowsV text v at_]

theorem splitSeq1_does (t : List UInt8) (c : UInt8) (H : AHeap) : Does Tryz.prog G 40 [.str t, .str [c], .int .i64 0] H fun r h => r = .func (.func 87) [] [.ptr (H.next + 1) 0, .ptr H.next 0, .ptr (H.next + 2) 0] ∧ h = ((H.push (.cells [.str t])).push (.cells [.str [c]])).push (.cells [.int .i64 0]) := by
  refine does_f Tryz.call40 Tryz.func40 rfl (by simp [Tryz.f40]) ?_
  simp
theorem splitSeq_does (t : List UInt8) (c : UInt8) (H : AHeap) : Does Tryz.prog G 16 [.str t, .str [c]] H fun r h => r = .func (.func 87) [] [.ptr (H.next + 1) 0, .ptr H.next 0, .ptr (H.next + 2) 0] ∧ h = ((H.push (.cells [.str t])).push (.cells [.str [c]])).push (.cells [.int .i64 0]) := by
  refine does_f Tryz.call16 Tryz.func16 rfl (by simp [Tryz.f16]) ?_
  simp
  refine does_use (splitSeq1_does t c H) ?_
  rintro _ _ ⟨rfl, rfl⟩
  simp
/-- What is known at a round's head. -/
structure SpI (H : AHeap) (text s : List UInt8) (at_ : Nat) (H1 : AHeap) : Prop where
  c1 : H1.get H.next = some (.cells [.str text])
  c2 : H1.get (H.next + 1) = some (.cells [.str []])
  c3 : H1.get (H.next + 2) = some (.cells [.nilsl])
  c4 : H1.get (H.next + 3) = some (.cells [.int .i64 at_])
  c5 : H1.get (H.next + 4) = some (.cells [.str s])
  c6 : H1.get (H.next + 5) = some (.cells [.str [10]])
  c7 : H1.get (H.next + 6) = some (.cells [.int .i64 0])
  old : ∀ j x, H.get j = some x → H1.get j = some x
/-- What a round does. -/
def SpK (H : AHeap) (text : List UInt8) (v : AV) (at_ : Nat) (r : List UInt8) (H1 : AHeap) (tag : Option Code) (H' : AHeap) : Prop :=
  (tag = none ∧ r ≠ bord ∧ H' = H1.set (H.next + 3) (.cells [.int .i64 (at_ + r.length + 1 : Nat)])) ∨
  (tag = some .ret ∧ r = bord ∧ H' = (H1.set (H.next + 1) (.cells [.str (text.take at_)])).set (H.next + 2) (.cells [rowsV text v at_]))
/-- What the rounds leave. -/
def SpE (H : AHeap) (text : List UInt8) (v : AV) (tag : Option Code) (H' : AHeap) : Prop :=
  (∀ j x, H.get j = some x → H'.get j = some x) ∧
  ((tag = none ∧ findB 0 (rowsB 10 text) = none ∧ H'.get H.next = some (.cells [.str text]) ∧ H'.get (H.next + 1) = some (.cells [.str []]) ∧ H'.get (H.next + 2) = some (.cells [.nilsl])) ∨
  (∃ at_, tag = some .ret ∧ findB 0 (rowsB 10 text) = some at_ ∧ H'.get (H.next + 1) = some (.cells [.str (text.take at_)]) ∧ H'.get (H.next + 2) = some (.cells [rowsV text v at_])))
/-- The rows behind the border, as the calls give them. -/
def SpT (G : Nat → Option AV) (text : List UInt8) (v : AV) : Prop := ∀ at_, findB 0 (rowsB 10 text) = some at_ → restB text at_ ≠ [] → ∃ u, (∀ H, Does Tryz.prog G 18 [.str (restB text at_), .str [10]] H fun r h => r = .str u ∧ h = H) ∧ ∀ H, Does Tryz.prog G 17 [.str u, .str [10]] H fun r h => r = v ∧ h = H

/-- The iterator, over rounds that do what they do. -/
theorem iter_calls {H : AHeap} (hw : H.Wf) {text : List UInt8} {v : AV} {s : LS} {l : Nat} {Eb : Env} (hb : text.length ≤ 1000000) (hG : GRel Eb G)
    (hround : ∀ (r : List UInt8) (at_ : Nat) (s' : List UInt8) (rs : List (List UInt8)) (H1 : AHeap), at_ + r.length ≤ text.length → findB 0 (rowsB 10 text) = findB at_ (r :: rs) → SpI H text s' at_ H1 → RoundC Tryz.prog G s l Eb [.str r] H1 (SpK H text v at_ r H1)) (H1 : AHeap) (h1 : SpI H text text 0 H1) :
    ∀ n w (vs : List Value), Rel Eb H1 w → Eb.F l = some (s.st none) → VRels Eb [AV.func (.yield l) [] [], .ptr (H.next + 5) 0, .ptr (H.next + 4) 0, .ptr (H.next + 6) 0] vs →
      CallsIn Fence.wide n Tryz.prog 87 vs.toArray w fun e w' => (∃ v, e = .returned v) ∧ ∃ H' E' t', SpE H text v t' H' ∧ Px l Eb E' ∧ Rel E' H' w' ∧ E'.F l = some (s.st t') := by
  refine iter_of (X := ⟨Tryz.prog, G, 52⟩) Tryz.func87 rfl rfl rfl (by simp [Tryz.f87]) ?_
  have hGX : GRel Eb (Ctx.mk Tryz.prog G 52).G := hG
  -- what a round leaves, as the end sees it
  have fin : ∀ (r : List UInt8) (at_ : Nat) (s' : List UInt8) (rs : List (List UInt8)) (H2 H3 : AHeap) (tag : Option Code), findB 0 (rowsB 10 text) = findB at_ (r :: rs) → SpI H text s' at_ H2 → SpK H text v at_ r H2 tag H3 → tag ≠ none ∨ rs = [] → SpE H text v tag H3 := by
    intro r at_ s' rs H2 H3 tag hf hI hk ht
    have lt : ∀ j x, H.get j = some x → j ≠ H.next ∧ j ≠ H.next + 1 ∧ j ≠ H.next + 2 ∧ j ≠ H.next + 3 := fun j x hj => by
      have := (hw _ _ hj).1
      omega
    rcases hk with ⟨rfl, h3, rfl⟩ | ⟨rfl, h3, rfl⟩
    · obtain rfl := ht.resolve_left (by simp)
      refine ⟨fun j x hj => ?_, .inl ⟨rfl, ?_, ?_, ?_, ?_⟩⟩
      · simp [(lt j x hj).2.2.2, hI.old j x hj]
      · rw [hf]; simp [findB, h3]
      · simp [hI.c1]
      · simp [hI.c2]
      · simp [hI.c3]
    · refine ⟨fun j x hj => ?_, .inr ⟨at_, rfl, ?_, ?_, ?_⟩⟩
      · obtain ⟨_, k2, k3, _⟩ := lt j x hj
        simp [k2, k3, hI.old j x hj]
      · rw [hf]; simp [findB, h3]
      · simp
      · simp
  refine awp_seq (awp_flat hGX ?_)
  simp [h1.c6]
  refine awp_seq (awp_block (awp_loop (fun m T' H' t => t = none ∧ ∃ s' at_, m = s'.length ∧ at_ + s'.length = text.length ∧ findB 0 (rowsB 10 text) = findB at_ (rowsB 10 s') ∧ SpI H text s' at_ H' ∧
    T' 0 = .func (.yield l) [] [] ∧ T' 1 = .ptr (H.next + 5) 0 ∧ T' 2 = .ptr (H.next + 4) 0 ∧ T' 3 = .ptr (H.next + 6) 0) text.length ⟨rfl, text, 0, rfl, by omega, rfl, h1, by simp, by simp, by simp, by simp⟩ ?_))
  rintro m T' H' t ⟨rfl, s', at_, rfl, hat, hfind, hI, t0, t1, t2, t3⟩
  refine awp_block (awp_seq (awp_flat hGX ?_))
  simp [t1, t2, hI.c5, hI.c6]
  refine does_use (index_does s' 10 _) ?_
  rintro _ H' ⟨rfl, rfl⟩
  simp
  rcases rowsB_cut 10 s' with ⟨e1, e2, e3⟩ | ⟨i, e1, e2, e3, e4⟩
  · refine awp_seq (awp_flat hGX ?_)
    simp [e1]
    refine awp_region (alp_flat (pre := [_, _]) (rest := [_]) hGX rfl ?_)
    simp [t0, t2, hI.c5]
    rw [e2] at hfind
    refine alp_yield hGX rfl (by simp) (by simp [ayieldc, aval, avals]) rfl (hround s' at_ s' [] H' (by omega) hfind hI) ?_
    intro tag' H2 hk
    exact alp_nil ⟨.inl rfl, fin s' at_ s' [] _ _ _ hfind hI hk (.inr rfl)⟩
  · have w1 : IntKind.i64.wrap ((i : Int) + 1) = ((i + 1 : Nat) : Int) := by rw [IntWalk.i64_in _ (by omega)]; omega
    have w0 : IntKind.i64.wrap (i : Int) = i := IntWalk.i64_in _ (by omega)
    have hn : ¬ (i : Int) < 0 := by omega
    have hle : i ≤ s'.length := by omega
    have hle2 : (0 : Int) ≤ ↑i + 1 ∧ (↑i : Int) + 1 ≤ ↑s'.length := by omega
    refine awp_seq (awp_flat hGX ?_)
    simp [e1, hn]
    refine awp_seq (awp_flat hGX ?_)
    simp [t2, t3, hI.c5, hI.c7, e1, w0, hle]
    refine awp_seq (awp_seq (awp_region (alp_flat (pre := [_, _]) (rest := [_, _]) hGX rfl ?_)))
    simp [t0]
    rw [e3] at hfind
    refine alp_yield hGX rfl (by simp) (by simp [ayieldc, aval, avals]) rfl (hround (s'.take i) at_ s' (rowsB 10 (s'.drop (i + 1))) H' (by simp; omega) hfind hI) ?_
    intro tag' H2 hk
    refine alp_flat (pre := [_]) (rest := []) hGX rfl ?_
    simp
    refine alp_nil ?_
    by_cases htag : tag' = none
    · subst htag
      obtain ⟨_, k2, rfl⟩ : (none : Option Code) = none ∧ s'.take i ≠ bord ∧ H2 = H'.set (H.next + 3) (.cells [.int .i64 (at_ + (s'.take i).length + 1 : Nat)]) := by
        rcases hk with h | ⟨h, _⟩
        · exact h
        · cases h
      refine awp_cond (b := false) hGX (by simp [aval]) (awp_skip ?_)
      refine awp_flat hGX ?_
      simp [t1, t2, hI.c5, hI.c6, e1, w1, hle2]
      have hm : min i s'.length = i := by omega
      have htk : List.take (s'.length - (i + 1)) (List.drop (i + 1) s') = List.drop (i + 1) s' := List.take_of_length_le (by simp)
      rw [hm, htk]
      refine ⟨_, ?_, s'.drop (i + 1), rfl, at_ + i + 1, ?_, ?_, ⟨?_, ?_, ?_, ?_, ?_, ?_, ?_, fun j x hj => ?_⟩, t0, t3⟩
      · simp; omega
      · simp; omega
      · rw [hfind]
        simp [findB, k2, hm]
      · simp [hI.c1]
      · simp [hI.c2]
      · simp [hI.c3]
      · simp
      · simp
      · simp [hI.c6]
      · simp [hI.c7]
      · have := (hw _ _ hj).1
        simp [show j ≠ H.next + 3 by omega, show j ≠ H.next + 4 by omega, hI.old j x hj]
    · refine awp_cond (b := true) hGX ?_ (awp_ret ?_)
      · cases tag' with
        | none => exact absurd rfl htag
        | some c => simp [aval]
      · exact ⟨.inr rfl, fin (s'.take i) at_ s' _ _ _ _ hfind hI hk (.inl htag)⟩

theorem split_does {text : List UInt8} {v : AV} (hb : text.length ≤ 1000000) (hv : ∀ n, v.idLt n = true) (hvc : v.cells = [v]) (hvx : v.scalar = true) (hT : SpT G text v) (H : AHeap) : Does Tryz.prog G 8 [.str text] H fun r h => r = splitA text v ∧ h = H := by
  have hres : ∀ n, (splitA text v).idLt n = true := fun n => by
    unfold splitA
    split
    · rfl
    · unfold rowsV
      split
      · rfl
      · simp [AV.idLt, AV.allLt, hv]
  refine Does.forgot (R := fun r h => r = splitA text v ∧ ∀ j x, H.get j = some x → h.get j = some x) (Does.wf Tryz.call8 fun hw _ => ?_) fun _ _ r H1 ⟨h1, h2⟩ => ⟨h2, by rw [h1]; exact hres _, h1, rfl⟩
  refine does_marks (X := ⟨Tryz.prog, G, 41⟩) Tryz.call8 Tryz.func8 rfl rfl (by simp [Tryz.f8]) ?_
  intro E0 a w hG hs
  refine (show AWG ⟨Tryz.prog, G, 41⟩ E0 _ _ _ H from ?_) a w hs
  have nx : ∀ j x, H.get j = some x → j < H.next := fun j x hj => (hw _ _ hj).1
  have n02 : ¬ H.next = H.next + 1 + 1 := by omega
  have n01 : ¬ H.next = H.next + 1 := by omega
  have n12 : ¬ H.next + 1 = H.next + 1 + 1 := by omega
  have n03 : ¬ H.next = H.next + 1 + 1 + 1 := by omega
  have n13 : ¬ H.next + 1 = H.next + 1 + 1 + 1 := by omega
  have n23 : ¬ H.next + 1 + 1 = H.next + 1 + 1 + 1 := by omega
  refine awg_seq hG ?_
  simp
  refine awg_seq hG ?_
  by_cases h0 : text = []
  · subst h0
    simp [n01, n02, n12]
    refine fq_end (X := ⟨Tryz.prog, G, 41⟩) (.inr rfl) ?_
    simp [splitA, rowsB, findB, bord, n01, n02, n12]
    intro j x hj
    have := nx j x hj
    simp [show ¬ j = H.next by omega, show ¬ j = H.next + 1 by omega, show ¬ j = H.next + 1 + 1 by omega, hj]
  have h0' : text.isEmpty = false := by simpa using h0
  simp [h0, h0', n01, n02, n12]
  refine awg_seq hG ?_
  simp
  refine awg_seq' (awg_seq hG ?_)
  simp [n01, n02, n03, n12, n13, n23]
  refine does_use (splitSeq_does text 10 _) ?_
  rintro _ _ ⟨rfl, rfl⟩
  simp
  refine awg_abs fun T4 H4 hT4 hH4 => ?_
  have t1 : T4 1 = .ptr H.next 0 := by rw [hT4]; simp
  have t2 : T4 2 = .ptr (H.next + 1) 0 := by rw [hT4]; simp
  have t3 : T4 3 = .ptr (H.next + 2) 0 := by rw [hT4]; simp
  have t4 : T4 4 = .ptr (H.next + 3) 0 := by rw [hT4]; simp
  have t10 : T4 10 = .func (.func 87) [] [.ptr (H.next + 5) 0, .ptr (H.next + 4) 0, .ptr (H.next + 6) 0] := by rw [hT4]; simp
  have hI4 : SpI H text text 0 H4 := by
    rw [hH4]
    refine ⟨?_, ?_, ?_, ?_, ?_, ?_, ?_, fun j x hj => ?_⟩
    · simp
      repeat rw [if_neg (by omega)]
    · simp
    · simp
    · simp
    · simp
    · simp
    · simp
    · have := nx j x hj
      simp [show ¬ j = H.next by omega, show ¬ j = H.next + 1 by omega, show ¬ j = H.next + 1 + 1 by omega, show ¬ j = H.next + 1 + 1 + 1 by omega, show ¬ j = H.next + 1 + 1 + 1 + 1 by omega, show ¬ j = H.next + 1 + 1 + 1 + 1 + 1 by omega, show ¬ j = H.next + 1 + 1 + 1 + 1 + 1 + 1 by omega, hj]
  clear hT4 hH4
  intro a2 w2 s2
  refine wpIn_block (wpIn_mono (range_of (X := ⟨Tryz.prog, G, 41⟩) (K := SpE H text v) (gf := 87) (cap := [.ptr (H.next + 5) 0, .ptr (H.next + 4) 0, .ptr (H.next + 6) 0]) (by simp [aval, t10]) Tryz.call87 ?hK ?hI 0 E0 a2 w2 hG s2) ?_)
  case hK =>
    rintro t H' ⟨_, ⟨rfl, _⟩ | ⟨_, rfl, _⟩⟩ <;> rfl
  case hI =>
    intro s l Eb hps has hbd hGb hTb n w vs hR hF hvs
    refine iter_calls hw hb hGb ?_ H4 hI4 n w vs hR hF hvs
    intro r at_ s' rs H1 hle hf hI
    refine round_of (X := ⟨Tryz.prog, G, 41⟩) (Qb := fun e T' H' => soft e = true ∧ SpK H text v at_ r H1 (tagOf e) H') hTb (by rw [hps]; rfl) (by rw [hps]; simp) ?_ (fun e T' H' h => h)
    rw [hps, has, hbd]
    refine awR_flatf rfl ?_
    simp [tputs]
    refine awR_block (awR_seq (awR_seq (awR_flatf rfl ?_)))
    simp
    by_cases hr : r = bord
    · subst hr
      refine awR_cond (b := true) (by simp [aval, bord]) ?_
      rw [if_pos rfl]
      have hl3 : bord.length = 3 := rfl
      have w3 : IntKind.i64.wrap ((at_ : Int) + 3) = at_ + 3 := IntWalk.i64_in _ (by omega)
      have w4 : IntKind.i64.wrap ((at_ : Int) + 3 + 1) = at_ + 3 + 1 := IntWalk.i64_in _ (by omega)
      refine awR_seq (awR_flatf rfl ?_)
      obtain ⟨m, hm, hm2, hm3⟩ : ∃ m : Nat, (if (text.length : Int) < at_ + 3 + 1 then (text.length : Int) else at_ + 3 + 1) = m ∧ m = min (at_ + 4) text.length ∧ m ≤ text.length := ⟨min (at_ + 4) text.length, by split <;> omega, rfl, by omega⟩
      have htk : List.take (text.length - m) (List.drop m text) = restB text at_ := by
        unfold restB
        rw [← hm2]
        exact List.take_of_length_le (by simp)
      simp [t1, t4, hI.c1, hI.c4, hl3, w3, w4, hm, hm3, htk]
      refine awR_seq (awR_seq (awR_flatf rfl ?_))
      simp
      have hat : at_ ≤ text.length := by omega
      have hta : List.take at_ text = text.take at_ := rfl
      by_cases hre : restB text at_ = []
      · refine awR_cond (b := true) (by simp [aval, hre]) ?_
        rw [if_pos rfl]
        refine awR_flatf rfl ?_
        simp [t1, t2, t3, t4, hI.c1, hI.c2, hI.c3, hI.c4, hat]
        exact ⟨rfl, .inr ⟨rfl, rfl, by rw [rowsV, if_pos hre]⟩⟩
      · refine awR_cond (b := false) (by simp [aval, hre]) ?_
        rw [if_neg (by simp)]
        refine awR_skip ?_
        obtain ⟨u, hu1, hu2⟩ := hT at_ (by rw [hf]; simp [findB]) hre
        show AWR ⟨Tryz.prog, G, 41⟩ (some l) [] (Code.seq _ _) _ _ _
        refine awR_seq (awR_drawn [(0, 0), (0, 5), (0, 6), (1, 0), (1, 5), (1, 6)] mixJ rfl (fun T' H' h => ?_) (by kernel_rfl) ?_)
        · have h2 : soft .outgrown = true ∧ _ := h
          cases h2.1
        intro es hes
        simp [t1, t2, t3, t4, hI.c1, hI.c2, hI.c3, hI.c4, hat]
        refine ⟨_, _, hu1 _, Nat.le_refl _, ?_⟩
        refine ⟨_, _, hu2 _, Nat.le_refl _, ?_⟩
        simp [t1, t2, t3, t4, hI.c1, hI.c2, hI.c3, hI.c4, hat, hvc, hvx, rds, heapF]
        subst hes
        refine ⟨⟨by kernel_rfl, by kernel_rfl⟩, awR_ret ?_⟩
        show soft .ret = true ∧ _
        exact ⟨rfl, .inr ⟨rfl, rfl, by rw [rowsV, if_neg hre]⟩⟩
    · refine awR_cond (b := false) (by simp [aval]; exact hr) ?_
      rw [if_neg (by simp)]
      refine awR_skip ?_
      have wl : IntKind.i64.wrap ((r.length : Int) + 1) = r.length + 1 := IntWalk.i64_in _ (by omega)
      have wa : IntKind.i64.wrap ((at_ : Int) + (r.length + 1)) = at_ + (r.length + 1) := IntWalk.i64_in _ (by omega)
      refine awR_flatf rfl ?_
      simp [t4, hI.c4, wl, wa]
      refine ⟨rfl, .inl ⟨rfl, hr, ?_⟩⟩
      rw [show ((at_ + r.length + 1 : Nat) : Int) = at_ + (r.length + 1) by omega]
  · rintro e a3 w3 ⟨D, H', t', ⟨hold, hk⟩, hq, rfl⟩
    rcases hk with ⟨rfl, k1, k2, k3, k4⟩ | ⟨at_, rfl, k1, k2, k3⟩
    · show Code.wpIn _ _ _ _ _ _ _
      refine awr_behind_f (fn := Tryz.f8) rfl ?_ hG hq
      simp [t1, t2, t3, k2, k3, k4]
      refine ⟨by simp [splitA, k1], fun j x hj => ?_⟩
      have := nx j x hj
      simp [show ¬ j = H.next + 2 by omega, show ¬ j = H.next + 1 by omega, hold j x hj]
    · refine fq_mark (.inr rfl) ?_ hq
      simp [t2, t3, k2, k3]
      exact ⟨by simp [splitA, k1], hold⟩
end Go.Proofs.YtajcehcdmbfhaaaGreatDoor

/-
  strings.TrimSuffix, strings.Split at a byte; script.split of a program and its lines.
-/


namespace Go.Proofs.YtajcehcdmbfhaaaGreatDoor
open Go Go.Abs Go.Lex
variable {G : Nat → Option AV}

/-! ### rows -/
theorem rowsB_line (c : UInt8) (a b : List UInt8) (h : c ∉ a) : rowsB c (a ++ c :: b) = a :: rowsB c b := by
  induction a with
  | nil => simp [rowsB]
  | cons x a ih =>
    have h1 : ¬ x = c := fun e => h (by simp [e])
    have h2 : c ∉ a := fun e => h (by simp [e])
    rw [List.cons_append, rowsB, ih h2]
    simp [h1]
theorem rowsB_one (c : UInt8) (a : List UInt8) (h : c ∉ a) : rowsB c a = [a] := by
  induction a with
  | nil => rfl
  | cons x a ih =>
    have h1 : ¬ x = c := fun e => h (by simp [e])
    have h2 : c ∉ a := fun e => h (by simp [e])
    rw [rowsB, ih h2]
    simp [h1]
theorem rowsB_same (c : UInt8) : ∀ n, rowsB c (List.replicate n c) = List.replicate (n + 1) []
  | 0 => rfl
  | n + 1 => by
    rw [List.replicate_succ, rowsB, rowsB_same c n]
    simp [List.replicate_succ]

/-! ### a list of texts -/
def strsV (l : List (List UInt8)) : List AV := l.map AV.str
theorem strsV_len (l : List (List UInt8)) : (strsV l).length = l.length := by simp [strsV]
theorem strsV_lt (n : Nat) : ∀ l, AV.allLt n (strsV l) = true
  | [] => rfl
  | a :: l => by
    have := strsV_lt n l
    simp only [strsV, List.map_cons, AV.allLt, AV.idLt, Bool.true_and] at this ⊢
    exact this
theorem strsV_put {l : List (List UInt8)} {i : Nat} (h : i < l.length) (x : List UInt8) : List.take i (strsV l) ++ AV.str x :: List.drop (i + 1) (strsV l) = strsV (l.set i x) := by
  have e : (strsV l).set i (.str x) = strsV (l.set i x) := by simp [strsV, List.map_set]
  rw [← e, List.set_eq_take_append_cons_drop, if_pos (by rw [strsV_len]; exact h)]
theorem strsV_sc (l : List (List UInt8)) : (strsV l).all AV.scalar = true := by simp [strsV]
theorem strsV_at {l : List (List UInt8)} {i : Nat} (h : i < l.length) : (strsV l)[i]? = some (.str l[i]) := by simp [strsV, h]
theorem arep_str : ∀ n, arep [AV.str []] n = strsV (List.replicate n [])
  | 0 => rfl
  | n + 1 => by
    rw [arep, arep_str n]
    simp [strsV, List.replicate_succ]
/-- Places of a row of texts that are filled, then blank ones. -/
def padB (done : List (List UInt8)) (n : Nat) : List (List UInt8) := done ++ List.replicate (n - done.length) []
theorem padB_len {done : List (List UInt8)} {n : Nat} (h : done.length ≤ n) : (padB done n).length = n := by simp [padB]; omega
theorem padB_set {done : List (List UInt8)} {n : Nat} (h : done.length < n) (x : List UInt8) : (padB done n).set done.length x = padB (done ++ [x]) n := by
  obtain ⟨k, hk⟩ : ∃ k, n - done.length = k + 1 := ⟨n - done.length - 1, by omega⟩
  have hk2 : n - (done ++ [x]).length = k := by simp; omega
  rw [padB, padB, hk, hk2, List.set_append_right _ _ (Nat.le_refl _), Nat.sub_self, List.replicate_succ, List.set_cons_zero]
  simp
theorem padB_full {done : List (List UInt8)} : padB done done.length = done := by simp [padB]

/-! ### calls -/
theorem hasSuffixL (l : List UInt8) (b : UInt8) (hl : l.length ≤ 1000000) (H : AHeap) : Does Tryz.prog G 92 [.str (l ++ [b]), .str [10]] H fun r h => r = .bool (decide (b = 10)) ∧ h = H := by
  refine does_f Tryz.call92 Tryz.func92 rfl (by simp [Tryz.f92]) ?_
  have w1 : IntKind.i64.wrap (l.length : Int) = l.length := IntWalk.i64_in _ (by omega)
  have h1 : (1 : Int) ≤ l.length + 1 := by omega
  have h2 : (l.length : Int) ≤ l.length + 1 := by omega
  have h3 : (b == 10) = decide (b = 10) := by by_cases h : b = 10 <;> simp [h]
  simp [w1, h1, h2, h3]
theorem trimSuffixL (l : List UInt8) (b : UInt8) (hl : l.length ≤ 1000000) (H : AHeap) : Does Tryz.prog G 42 [.str (l ++ [b]), .str [10]] H fun r h => r = .str (if b = 10 then l else l ++ [b]) ∧ h = H := by
  refine does_f Tryz.call42 Tryz.func42 rfl (by simp [Tryz.f42]) ?_
  have w1 : IntKind.i64.wrap (l.length : Int) = l.length := IntWalk.i64_in _ (by omega)
  have h2 : (l.length : Int) ≤ l.length + 1 := by omega
  simp
  refine does_use (hasSuffixL l b hl H) ?_
  rintro _ _ ⟨rfl, rfl⟩
  by_cases hb : b = 10
  · subst hb
    simp [w1, h2]
  · simp [hb]
theorem trimSuffix_does (l : List UInt8) (b : UInt8) (hl : l.length ≤ 1000000) (H : AHeap) : Does Tryz.prog G 18 [.str (l ++ [b]), .str [10]] H fun r h => r = .str (if b = 10 then l else l ++ [b]) ∧ h = H := by
  refine does_f Tryz.call18 Tryz.func18 rfl (by simp [Tryz.f18]) ?_
  simp
  refine does_use (trimSuffixL l b hl H) ?_
  rintro _ _ ⟨rfl, rfl⟩
  simp
/-- A text without the line's end that it may end with. -/
def trimL (r : List UInt8) : List UInt8 := if r.getLast? = some 10 then r.dropLast else r
theorem trim_does {r : List UInt8} (hr : r ≠ []) (hl : r.length ≤ 1000000) (H : AHeap) : Does Tryz.prog G 18 [.str r, .str [10]] H fun v h => v = .str (trimL r) ∧ h = H := by
  obtain ⟨l, b, rfl⟩ : ∃ l b, r = l ++ [b] := ⟨r.dropLast, r.getLast hr, (List.dropLast_concat_getLast hr).symm⟩
  refine (trimSuffix_does l b (by simp at hl; omega) H).mono fun v h => ?_
  rintro ⟨rfl, rfl⟩
  refine ⟨?_, rfl⟩
  simp only [trimL, List.getLast?_append, List.getLast?_singleton, Option.some_or, Option.some.injEq, List.dropLast_concat]
theorem rowsB_pos (c : UInt8) (s : List UInt8) : 1 ≤ (rowsB c s).length := by rw [rowsB_len]; omega
set_option maxHeartbeats 8000000 in
set_option maxRecDepth 100000 in
theorem genSplit_live (s : List UInt8) (c : UInt8) (hs : s.length ≤ 1000000) (H : AHeap) : Does Tryz.prog G 41 [.str s, .str [c], .int .i64 0, .int .i64 (-1)] H fun r h =>
    r = .sl H.next 0 1 (rowsB c s).length (rowsB c s).length false ∧ h = H.push (.cells (strsV (rowsB c s))) := by
  refine does_f Tryz.call41 Tryz.func41 rfl (by simp [Tryz.f41]) ?_
  have hc := cnt_le c s
  have hlen := rowsB_len c s
  obtain ⟨N, hN⟩ : ∃ N, N = Go.Lib.countByte s c + 1 := ⟨_, rfl⟩
  have w1 : IntKind.i64.wrap ((Go.Lib.countByte s c : Int) + 1) = (N : Int) := by rw [IntWalk.i64_in _ (by omega)]; omega
  have w2 : IntKind.i64.wrap ((s.length : Int) + 1) = s.length + 1 := IntWalk.i64_in _ (by omega)
  have w3 : IntKind.i64.wrap ((N : Int) - 1) = ((N - 1 : Nat) : Int) := by rw [IntWalk.i64_in _ (by omega)]; omega
  have q1 : ¬ ((s.length : Int) + 1 < N) := by omega
  have q2 : (N : Int) ≤ 4611686018427387904 := by omega
  have q3 : 16 * (N : Int) ≤ 281474976710656 := by omega
  rw [← hN] at hlen
  simp
  refine does_use (count_does s c _) ?_
  rintro _ H ⟨rfl, rfl⟩
  simp [w1, w2, w3, q1, q2, q3, arep_str]
  refine aws_loopw (fun m T' H' => ∃ done rest, done.length + 1 + m = N ∧ done ++ rowsB c rest = rowsB c s ∧ rest.length ≤ s.length ∧ T' 0 = .str rest ∧ T' 1 = .str [c] ∧ T' 2 = .int .i64 0 ∧ T' 3 = .int .i64 (N - 1 : Nat) ∧
    T' 9 = .sl H.next 0 1 N N false ∧ T' 10 = .int .i64 done.length ∧ H' = H.push (.cells (strsV (padB done N)))) (N - 1) ?_ ?_
  · refine ⟨[], s, by simp; omega, rfl, Nat.le_refl _, ?_, ?_, ?_, ?_, ?_, ?_, ?_⟩
    all_goals simp [padB]
  rintro m T H1 ⟨done, rest, hm, hd, hr, t0, t1, t2, t3, t9, t10, rfl⟩ hw1 _
  have hlr : done.length + (rowsB c rest).length = N := by rw [← hlen, ← hd, List.length_append]
  have pl : (padB done N).length = N := padB_len (by omega)
  have pv : (strsV (padB done N)).length = N := by rw [strsV_len, pl]
  have put := fun x => strsV_put (l := padB done N) (i := done.length) (by omega) x
  have set_ := fun x => padB_set (done := done) (n := N) (by omega) x
  have wd : IntKind.i64.wrap ((done.length : Int) + 1) = ((done.length + 1 : Nat) : Int) := by rw [IntWalk.i64_in _ (by omega)]; omega
  have q4 : (done.length : Int) < N := by omega
  have q5 : done.length < N := by omega
  by_cases hlt : done.length < N - 1
  · have hlt2 : (done.length : Int) < ((N - 1 : Nat) : Int) := by omega
    rcases rowsB_cut c rest with ⟨_, e2, _⟩ | ⟨i, e1, e2, e3, e4⟩
    · rw [e2] at hlr; simp at hlr; omega
    have wi : IntKind.i64.wrap ((i : Int) + 1) = ((i + 1 : Nat) : Int) := by rw [IntWalk.i64_in _ (by omega)]; omega
    have wi0 : IntKind.i64.wrap (i : Int) = (i : Int) := IntWalk.i64_in _ (by omega)
    have q6 : ¬ (i : Int) < 0 := by omega
    have q7 : (i : Int) ≤ rest.length := by omega
    have q8 : (0 : Int) ≤ ↑i + 1 ∧ (i : Int) + 1 ≤ rest.length := by omega
    have q9 : i + 1 ≤ rest.length := by omega
    have q10 : i ≤ rest.length := by omega
    have q11 : done.length + 1 ≤ N := by omega
    have htk : List.take (rest.length - (i + 1)) (List.drop (i + 1) rest) = List.drop (i + 1) rest := List.take_of_length_le (by simp)
    simp [t0, t1, t2, t3, t9, t10, hlt, hlt2]
    refine does_use (index_does rest c _) ?_
    rintro _ _ ⟨rfl, rfl⟩
    simp [t0, t1, t2, t3, t9, t10, e1, q4, q5, q6, q7, q8, q9, q10, q11, wi, wi0, wd, pv, put, set_, htk]
    refine ⟨m - 1, by omega, done ++ [rest.take i], by simp; omega, ?_⟩
    rw [← hd, e3]
    simp
    omega
  · obtain rfl : N = done.length + 1 := by omega
    have hl1 : (rowsB c rest).length = 1 := by omega
    have e2 : rowsB c rest = [rest] := by
      rcases rowsB_cut c rest with ⟨_, e2, _⟩ | ⟨i, e1, e2, e3, e4⟩
      · exact e2
      · have := rowsB_pos c (rest.drop (i + 1))
        rw [e3] at hl1
        simp at hl1
        simp [hl1] at this
    rw [e2] at hd
    have hd2 : padB (done ++ [rest]) (done.length + 1) = rowsB c s := by
      rw [← hd]
      have : done.length + 1 = (done ++ [rest]).length := by simp
      rw [this, padB_full]
    have q12 : (done.length : Int) < done.length + 1 := by omega
    have q13 : (0 : Int) ≤ done.length + 1 := by omega
    simp [t0, t1, t2, t3, t9, t10, wd, pv, put, set_, hd2, hlen, q12, q13]
theorem split_line (s : List UInt8) (c : UInt8) (hs : s.length ≤ 1000000) (H : AHeap) : Does Tryz.prog G 17 [.str s, .str [c]] H fun r h => r = .vsl (strsV (rowsB c s)) (rowsB c s).length ∧ h = H := by
  refine Does.deep (R := fun r h => r = .sl H.next 0 1 (rowsB c s).length (rowsB c s).length false ∧ h = H.push (.cells (strsV (rowsB c s)))) ?_ ?_
  · refine does_f Tryz.call17 Tryz.func17 rfl (by simp [Tryz.f17]) ?_
    simp
    refine does_use (genSplit_live s c hs _) ?_
    rintro _ _ ⟨rfl, rfl⟩
    simp
  · rintro hw ha r H1 ⟨rfl, rfl⟩
    refine ⟨_, H, .sl (cs := strsV (rowsB c s)) (Nat.le_refl _) (by simp) ?_, rfl, fun i x hi => ⟨?_, hw i x hi⟩, rfl, rfl⟩
    · rw [List.drop_zero, List.take_of_length_le (by rw [strsV_len]; omega)]
      exact ResL.old (strsV_lt _ _)
    · have := (hw i x hi).1
      simp [show i ≠ H.next by omega, hi]
end Go.Proofs.YtajcehcdmbfhaaaGreatDoor

/-
  script.split of a program and its lines; script.Run of lines that are none.
-/

namespace Go.Proofs.YtajcehcdmbfhaaaGreatDoor
open Go Go.Abs Go.Lex
variable {G : Nat → Option AV}

/-- A program, the border, lines. -/
def oneP : List UInt8 := [110,111,100,101,32,102,40,120,58,32,105,110,116,41,32,114,101,116,117,114,110,115,32,40,115,58,32,105,110,116,41,59,32,108,101,116,32,115,32,61,32,120,32,43,32,40,48,32,102,98,121,32,115,41,59,32,116,101,108]
def withL (p r : List UInt8) : List UInt8 := p ++ 10 :: (bord ++ 10 :: r)
def rowsL (r : List UInt8) : AV := .vsl (strsV (rowsB 10 (trimL r))) (rowsB 10 (trimL r)).length
theorem withL_len (p r : List UInt8) : (withL p r).length = p.length + 5 + r.length := by simp [withL, bord]; omega
theorem find_with {p : List UInt8} (hp : (10 : UInt8) ∉ p) (hb : p ≠ bord) (r : List UInt8) : findB 0 (rowsB 10 (withL p r)) = some (p.length + 1) := by
  rw [withL, rowsB_line 10 p _ hp, rowsB_line 10 bord _ (by decide)]
  simp [findB, hb]
theorem rest_with (p r : List UInt8) : restB (withL p r) (p.length + 1) = r := by
  have e : min (p.length + 1 + 4) (withL p r).length = p.length + 5 := by rw [withL_len]; omega
  rw [restB, e, withL, show p ++ 10 :: (bord ++ 10 :: r) = (p ++ [10] ++ bord ++ [10]) ++ r by simp]
  rw [List.drop_left' (by simp [bord])]
theorem take_with (p r : List UInt8) : (withL p r).take (p.length + 1) = p ++ [10] := by
  rw [withL, show p ++ 10 :: (bord ++ 10 :: r) = (p ++ [10]) ++ (bord ++ 10 :: r) by simp]
  rw [List.take_left' (by simp)]
theorem split_with {p : List UInt8} (hp : (10 : UInt8) ∉ p) (hb : p ≠ bord) {r : List UInt8} (hr : r ≠ []) (hl : p.length + r.length ≤ 999000) (H : AHeap) :
    Does Tryz.prog G 8 [.str (withL p r)] H fun v h => v = .tuple [.str (p ++ [10]), rowsL r] ∧ h = H := by
  have e : splitA (withL p r) (rowsL r) = .tuple [.str (p ++ [10]), rowsL r] := by
    simp only [splitA, find_with hp hb, take_with, rowsV, rest_with, hr, if_false]
  rw [← e]
  refine split_does (by rw [withL_len]; omega) (fun n => ?_) rfl rfl ?_ H
  · simp only [rowsL, AV.idLt]; exact strsV_lt _ _
  intro at_ hf hr2
  rw [find_with hp hb] at hf
  cases hf
  rw [rest_with]
  exact ⟨trimL r, fun H => trim_does hr (by omega) H, fun H => split_line _ 10 (by unfold trimL; split <;> (try rw [List.length_dropLast]) <;> omega) H⟩
theorem split_none {p : List UInt8} (hp : (10 : UInt8) ∉ p) (hb : p ≠ bord) (hl : p.length ≤ 1000000) (H : AHeap) :
    Does Tryz.prog G 8 [.str p] H fun v h => v = .tuple [.str p, .nilsl] ∧ h = H := by
  have hf : findB 0 (rowsB 10 p) = none := by rw [rowsB_one 10 p hp]; simp [findB, hb]
  have e : splitA p .nilsl = .tuple [.str p, .nilsl] := by simp only [splitA, hf]
  rw [← e]
  refine split_does hl (fun n => rfl) rfl rfl ?_ H
  intro at_ h
  rw [hf] at h
  cases h
end Go.Proofs.YtajcehcdmbfhaaaGreatDoor

/-
  script.parse of blank lines; script.Run where nothing is played.
-/

namespace Go.Proofs.YtajcehcdmbfhaaaGreatDoor
open Go Go.Abs Go.Lex
variable {G : Nat → Option AV}

theorem split_end {p : List UInt8} (hp : (10 : UInt8) ∉ p) (hb : p ≠ bord) (hl : p.length ≤ 999000) (H : AHeap) :
    Does Tryz.prog G 8 [.str (withL p [])] H fun v h => v = .tuple [.str (p ++ [10]), .nilsl] ∧ h = H := by
  have e : splitA (withL p []) .nilsl = .tuple [.str (p ++ [10]), .nilsl] := by
    simp only [splitA, find_with hp hb, take_with, rowsV, rest_with, if_true]
  rw [← e]
  refine split_does (by rw [withL_len]; simp; omega) (fun n => rfl) rfl rfl ?_ H
  intro at_ hf hr2
  rw [find_with hp hb] at hf
  cases hf
  rw [rest_with] at hr2
  exact absurd rfl hr2
theorem parse_nil (H : AHeap) : Does Tryz.prog G 9 [.nilsl] H fun r h => r = .tuple [.nilsl, .bool true] ∧ h = H := by
  refine does_f Tryz.call9 Tryz.func9 rfl (by simp [Tryz.f9]) ?_
  simp
  refine aws_loopw (fun m T' H' => H' = H ∧ T' 4 = .nilsl ∧ T' 13 = .int .i64 0 ∧ T' 14 = .int .i64 0) 0 ?_ ?_
  · simp
  rintro m T H1 ⟨rfl, t4, t13, t14⟩ hw1 _
  simp [t4, t13, t14]
set_option maxHeartbeats 8000000 in
set_option maxRecDepth 100000 in
theorem parse_blank {n : Nat} (hn : n ≤ 1000) (H : AHeap) : Does Tryz.prog G 9 [.vsl (strsV (List.replicate n [])) n] H fun r h => r = .tuple [.nilsl, .bool true] ∧ h = H := by
  refine does_f Tryz.call9 Tryz.func9 rfl (by simp [Tryz.f9]) ?_
  have hl : (strsV (List.replicate n [])).length = n := by rw [strsV_len]; simp
  have hat : ∀ (i : Nat) (h : i < (strsV (List.replicate n [])).length), (strsV (List.replicate n []))[i] = .str [] := fun i hi => by simp [strsV]
  have hr : rowsB 32 [] = [[]] := rfl
  have hs1 : strsV [[]] = [.str []] := rfl
  generalize hC : strsV (List.replicate n []) = C at *
  simp [hl]
  refine aws_loopw (fun m T' H' => ∃ i : Nat, i + m = n ∧ H' = H ∧ T' 4 = .nilsl ∧ T' 12 = .vsl C n ∧ T' 13 = .int .i64 n ∧ T' 14 = .int .i64 i) n ?_ ?_
  · refine ⟨0, by simp, rfl, ?_, ?_, ?_, ?_⟩
    all_goals simp
  rintro m T H1 ⟨i, him, rfl, t4, t12, t13, t14⟩ hw1 _
  by_cases hi : i < n
  · have hii : (i : Int) < n := by omega
    have wi : IntKind.i64.wrap ((i : Int) + 1) = ((i + 1 : Nat) : Int) := by rw [IntWalk.i64_in _ (by omega)]; omega
    simp [t4, t12, t13, t14, hi, hii, hat, hl]
    refine does_use (split_line [] 32 (by simp) _) ?_
    rintro _ H1 ⟨rfl, rfl⟩
    have w0 : IntKind.i64.wrap 1 = 1 := rfl
    rw [hr, hs1]
    simp [t4, t12, t13, t14]
    refine aws_loopw (fun k T' H' => ∃ j : Nat, j + k = 1 ∧ H' = H1 ∧ T' 4 = .nilsl ∧ T' 12 = .vsl C n ∧ T' 13 = .int .i64 n ∧ T' 14 = .int .i64 i ∧ T' 7 = .nilsl ∧ T' 19 = .vsl [.str []] 1 ∧ T' 20 = .int .i64 1 ∧ T' 21 = .int .i64 j) 1 ?_ ?_
    · refine ⟨0, by simp, rfl, ?_, ?_, ?_, ?_, ?_, ?_, ?_, ?_⟩
      all_goals simp [t4, t12, t13, t14]
    rintro k T2 H2 ⟨j, hj, rfl, u4, u12, u13, u14, u7, u19, u20, u21⟩ hw2 _
    by_cases hj0 : j = 0
    · subst hj0
      simp [u4, u12, u13, u14, u7, u19, u20, u21, w0]
      exact ⟨0, by omega, 1, rfl, rfl⟩
    · obtain rfl : j = 1 := by omega
      simp [u4, u12, u13, u14, u7, u19, u20, u21, wi]
      refine ⟨m - 1, by omega, i + 1, by omega, ?_⟩
      simp
  · obtain rfl : n = i := by omega
    simp [t4, t12, t13, t14]
/-- How many lines are said to be. -/
inductive RowsN : AV → Nat → Prop
  | no : RowsN .nilsl 0
  | some (C : List AV) (n : Nat) : RowsN (.vsl C n) n
set_option maxHeartbeats 8000000 in
set_option maxRecDepth 100000 in
/-- Too much. -/
theorem run_limit {text prog : List UInt8} {rv : AV} {n : Nat} (hs : ∀ H, Does Tryz.prog G 8 [.str text] H fun r h => r = .tuple [.str prog, rv] ∧ h = H) (hn : RowsN rv n) (hbig : 32768 < text.length ∨ 400 < n) (H : AHeap) :
    Does Tryz.prog G 6 [.str text] H fun r h => r = .tuple [.str [], .int .i64 2] ∧ h = H := by
  refine does_f Tryz.call6 Tryz.func6 rfl (by simp [Tryz.f6]) ?_
  simp
  refine does_use (hs _) ?_
  rintro _ _ ⟨rfl, rfl⟩
  by_cases h1 : 32768 < text.length
  · have h2 : (32768 : Int) < text.length := by omega
    simp [h1, h2]
  · have h2 : ¬ (32768 : Int) < text.length := by omega
    have h3 : 400 < n := by omega
    have h4 : (400 : Int) < n := by omega
    cases hn with
    | no => omega
    | some C n => simp [h1, h2, h3, h4]
set_option maxHeartbeats 8000000 in
set_option maxRecDepth 100000 in
/-- Lines that are none. -/
theorem run_refused {text prog : List UInt8} {rv : AV} {n : Nat} (hs : ∀ H, Does Tryz.prog G 8 [.str text] H fun r h => r = .tuple [.str prog, rv] ∧ h = H) (hn : RowsN rv n) (hl : text.length ≤ 32768) (hn2 : n ≤ 400)
    (hp : ∀ H, Does Tryz.prog G 9 [rv] H fun r h => r = .tuple [.nilsl, .bool false] ∧ h = H) (H : AHeap) :
    Does Tryz.prog G 6 [.str text] H fun r h => r = .tuple [.str [], .int .i64 7] ∧ h = H := by
  refine does_f Tryz.call6 Tryz.func6 rfl (by simp [Tryz.f6]) ?_
  have h2 : ¬ (32768 : Int) < text.length := by omega
  have h1 : ¬ 32768 < text.length := by omega
  have h4 : ¬ (400 : Int) < n := by omega
  have h3 : ¬ 400 < n := by omega
  simp
  refine does_use (hs _) ?_
  rintro _ _ ⟨rfl, rfl⟩
  cases hn with
  | no =>
    simp [h1, h2, h3, h4]
    refine does_use (hp _) ?_
    rintro _ _ ⟨rfl, rfl⟩
    simp
  | some C n =>
    simp [h1, h2, h3, h4]
    refine does_use (hp _) ?_
    rintro _ _ ⟨rfl, rfl⟩
    simp
set_option maxHeartbeats 8000000 in
set_option maxRecDepth 100000 in
/-- No lines at all: the program compiled, a fleet begun. -/
theorem run_none {text prog : List UInt8} {rv : AV} {n : Nat} {c1 c2 c3 c4 c5 c6 : AV} {at_ : Int} (hs : ∀ H, Does Tryz.prog G 8 [.str text] H fun r h => r = .tuple [.str prog, rv] ∧ h = H) (hn : RowsN rv n) (hl : text.length ≤ 32768) (hn2 : n ≤ 400)
    (hp : ∀ H, Does Tryz.prog G 9 [rv] H fun r h => r = .tuple [.nilsl, .bool true] ∧ h = H)
    (hc : ∀ H, Does Tryz.prog G 10 [.str prog] H fun r h => r = .tuple [.agg [c1, c2, c3, c4, c5, c6], .agg [.int .i64 0, .int .i64 at_]] ∧ h = H)
    (hsc : (c1.scalar = true ∧ c1.cells = [c1]) ∧ (c2.scalar = true ∧ c2.cells = [c2]) ∧ (c3.scalar = true ∧ c3.cells = [c3]) ∧ (c4.scalar = true ∧ c4.cells = [c4]) ∧ (c5.scalar = true ∧ c5.cells = [c5]) ∧ (c6.scalar = true ∧ c6.cells = [c6]))
    (hf : ∀ H, Does Tryz.prog G 12 [.int .i64 1, .agg [c1, c2, c3, c4, c5, c6], .nilsl] H fun r h => r = .tuple [.vptr [], .int .i64 0] ∧ h = H) (H : AHeap) :
    Does Tryz.prog G 6 [.str text] H fun r h => r = .tuple [.str [], .int .i64 0] ∧ h = H := by
  refine Does.forgot (R := fun r h => r = .tuple [.str [], .int .i64 0] ∧ ∀ j x, H.get j = some x → h.get j = some x) ?_ (fun hw ha r H1 ⟨h1, h2⟩ => ⟨h2, by rw [h1]; rfl, h1, rfl⟩)
  refine Does.wf Tryz.call6 fun hw _ => ?_
  refine does_f Tryz.call6 Tryz.func6 rfl (by simp [Tryz.f6]) ?_
  have h2 : ¬ (32768 : Int) < text.length := by omega
  have h1 : ¬ 32768 < text.length := by omega
  have h4 : ¬ (400 : Int) < n := by omega
  have h3 : ¬ 400 < n := by omega
  obtain ⟨⟨a1, b1⟩, ⟨a2, b2⟩, ⟨a3, b3⟩, ⟨a4, b4⟩, ⟨a5, b5⟩, a6, b6⟩ := hsc
  simp
  refine does_use (hs _) ?_
  rintro _ H ⟨rfl, rfl⟩
  rcases hn with _ | ⟨C, n⟩
  all_goals
    simp [h1, h2, h3, h4]
    refine does_use (hp _) ?_
    rintro _ H ⟨rfl, rfl⟩
    simp
    refine does_use (hc _) ?_
    rintro _ H ⟨rfl, rfl⟩
    simp [a1, a2, a3, a4, a5, a6, b1, b2, b3, b4, b5, b6]
    refine does_use (hf _) ?_
    rintro _ _ ⟨rfl, rfl⟩
    simp [a1, a2, a3, a4, a5, a6, b1, b2, b3, b4, b5, b6]
    refine aws_loopw (fun m T' H' => (∀ j x, H.get j = some x → H'.get j = some x) ∧ (∃ c0, H'.get (H.next + 3) = some (.row 54 [c0, .nilsl])) ∧ T' 13 = .ptr (H.next + 3) 0 ∧ T' 68 = .int .i64 0 ∧ T' 69 = .int .i64 0) 0 ?_ ?_
    · refine ⟨fun j x hj => ?_, ⟨.nilptr, ?_⟩, ?_, ?_, ?_⟩
      · have := next_lt hw hj
        simp [show j ≠ H.next by omega, show j ≠ H.next + 1 by omega, show j ≠ H.next + 1 + 1 by omega, show j ≠ H.next + 1 + 1 + 1 by omega, hj]
      all_goals simp
    rintro m T H1 ⟨hk, ⟨c0, hb⟩, t13, t68, t69⟩ hw1 _
    simp [t13, t68, t69]
    refine does_use (string_nil isString hb) ?_
    rintro _ _ ⟨rfl, rfl⟩
    simp
    exact hk
end Go.Proofs.YtajcehcdmbfhaaaGreatDoor

/-
  Words: slices.Contains over strings; while, Kept, sign, between.
-/

namespace Go.Proofs.YtajcehcdmbfhaaaGreatDoor
open Go Go.Abs Go.Lex
variable {G : Nat → Option AV}

theorem sliceIndex (l : List Bs) (s : Bs) (i c : Nat) (op : Bool) (H : AHeap) (hi : H.get i = some (.cells (l.map .str))) (hl : l.length ≤ 1000000) :
    Does Tryz.prog G 402 [.sl i 0 1 l.length c op, .str s] H fun r H' => (if l.contains s then ∃ k : Nat, r = .int .i64 k else r = .int .i64 (-1)) ∧ H' = H := by
  refine does_f Tryz.call402 Tryz.func402 rfl (by simp [Tryz.f402]) ?_
  simp
  refine aws_loop (fun m T' H' => ∃ a b, l = a ++ b ∧ m = b.length ∧ s ∉ a ∧ T' 0 = .sl i 0 1 l.length c op ∧ T' 1 = .str s ∧ T' 7 = .int .i64 l.length ∧ T' 8 = .int .i64 a.length ∧ H' = H) l.length ⟨[], l, rfl, rfl, by simp, by simp⟩ ?_
  rintro m T H' ⟨a, b, rfl, rfl, hn, h0, h1, h7, h8, rfl⟩
  simp only [List.length_append] at hl h0 h7
  cases b with
  | nil => simp [h0, h1, h7, h8, hn]
  | cons t b =>
    simp only [List.length_cons] at hl
    have hlt : (a.length : Int) < a.length + (b.length + 1) := by omega
    have hle : a.length ≤ a.length + (b.length + 1) := by omega
    have hw : IntKind.i64.wrap ((a.length : Int) + 1) = a.length + 1 := IntWalk.i64_in _ (by omega)
    have hd : List.drop a.length (List.map AV.str a) = [] := by rw [List.drop_of_length_le]; simp
    by_cases e : s = t
    · subst e
      simp [h0, h1, h7, h8, hi, hlt, hle, hw, hd]
      exact ⟨a.length, rfl⟩
    · have e1 : (s == t) = false := by simpa using e
      simp [h0, h1, h7, h8, hi, hlt, hle, hw, hd, e1]
      exact ⟨b.length, by omega, a ++ [t], b, by simp, rfl, by simp [hn, e], by simp⟩

theorem sliceContains (l : List Bs) (s : Bs) (i c : Nat) (op : Bool) (H : AHeap) (hi : H.get i = some (.cells (l.map .str))) (hl : l.length ≤ 1000000) :
    Does Tryz.prog G 306 [.sl i 0 1 l.length c op, .str s] H fun r H' => r = .bool (l.contains s) ∧ H' = H := by
  refine does_f Tryz.call306 Tryz.func306 rfl (by simp [Tryz.f306]) ?_
  simp
  refine does_use (sliceIndex l s i c op H hi hl) ?_
  rintro r _ ⟨hr, rfl⟩
  cases hc : l.contains s with
  | true =>
    rw [hc, if_pos rfl] at hr
    obtain ⟨k, rfl⟩ := hr
    simp
  | false =>
    rw [hc] at hr
    simp only [Bool.false_eq_true, if_false] at hr
    subst hr
    simp

set_option maxRecDepth 100000 in
theorem kept_does (s : Bs) (H : AHeap) : Does Tryz.prog G 283 [.str s] H fun r H' => r = .bool (kept s) ∧ H' = H := by
  refine Does.forgot (R := fun r H' => r = .bool (kept s) ∧ ∀ j x, H.get j = some x → H'.get j = some x) ?_ ?_
  · refine Does.wf Tryz.call283 fun hw _ => ?_
    have old : ∀ j x, H.get j = some x → j ≠ H.next := fun j x hj => by have := next_lt hw hj; omega
    refine does_f Tryz.call283 Tryz.func283 rfl (by simp [Tryz.f283]) ?_
    simp
    refine does_use (sliceContains keptWords s H.next 21 false (H.push (.cells (keptWords.map .str))) (by simp) (by decide)) ?_
    rintro _ _ ⟨rfl, rfl⟩
    simp [kept]
    intro j x hj
    simp [hj, old j x hj]
  · rintro hw ha r H1 ⟨rfl, h⟩
    exact ⟨h, rfl, rfl, rfl⟩

theorem while_does (s set : Bs) (p : UInt8 → Bool) (hp : ∀ b, set.contains b = p b) (hc : ∀ b ∈ set, b.toNat < 128) (hl : set.length ≤ 1000000) (h2 : 2 ≤ set.length) (hs : s.length ≤ 1000000) (H : AHeap) :
    Does Tryz.prog G 280 [.str s, .str set] H fun r H' => r = .int .i64 (s.takeWhile p).length ∧ H' = H := by
  refine does_f Tryz.call280 Tryz.func280 rfl (by simp [Tryz.f280]) ?_
  simp
  refine does_use (trimLeft s set p hp hc hl h2 H) ?_
  rintro _ _ ⟨rfl, rfl⟩
  have e : s.length = (s.takeWhile p).length + (s.dropWhile p).length := by rw [← List.length_append, List.takeWhile_append_dropWhile]
  have hw : IntKind.i64.wrap ((s.length : Int) - (s.dropWhile p).length) = (s.takeWhile p).length := by
    rw [IntWalk.i64_in _ (by omega)]; omega
  simp [hw]

set_option maxRecDepth 100000 in
theorem sign_does (s : Bs) (H : AHeap) : Does Tryz.prog G 285 [.str s] H fun r H' => (match signOf s with | some t => r = .tuple [.agg [.int .i64 4, .str t, .int .i64 0, .int .i64 0], .bool true] | none => r = .tuple [.agg [.int .i64 0, .str [], .int .i64 0, .int .i64 0], .bool false]) ∧ H' = H := by
  refine Does.forgot (R := fun r H' => (match signOf s with | some t => r = .tuple [.agg [.int .i64 4, .str t, .int .i64 0, .int .i64 0], .bool true] | none => r = .tuple [.agg [.int .i64 0, .str [], .int .i64 0, .int .i64 0], .bool false]) ∧ ∀ j x, H.get j = some x → H'.get j = some x) ?_ ?_
  · refine Does.wf Tryz.call285 fun hw _ => ?_
    have old : ∀ j x, H.get j = some x → j ≠ H.next ∧ j ≠ H.next + 1 := fun j x hj => by have := next_lt hw hj; omega
    have hkeep : ∀ x y, ∀ j z, H.get j = some z → ((H.push x).push y).get j = some z := fun x y j z hj => by simp [hj, old j z hj]
    refine does_f Tryz.call285 Tryz.func285 rfl (by simp [Tryz.f285]) ?_
    simp
    refine aws_loop (fun m T' H' => ∃ a b, signs = a ++ b ∧ m = b.length ∧ a.find? (fun x => x.isPrefixOf s) = none ∧ T' 0 = .str s ∧ T' 2 = .ptr H.next 0 ∧ T' 6 = .sl (H.next + 1) 0 1 16 16 false ∧ T' 7 = .int .i64 16 ∧ T' 8 = .int .i64 a.length ∧ T' 3 = .bool false ∧
      H' = (H.push (.cells [.int .i64 0, .str [], .int .i64 0, .int .i64 0])).push (.cells (signs.map .str))) 16 ⟨[], signs, rfl, rfl, rfl, by simp [signs]⟩ ?_
    rintro m T H' ⟨a, b, hab, rfl, hn, h0, h2, h6, h7, h8, h3, rfl⟩
    have hlen : a.length + b.length = 16 := by rw [← List.length_append, ← hab]; rfl
    cases b with
    | nil =>
      have ha : a.length = 16 := by simpa using hlen
      have hs : signOf s = none := by
        unfold signOf
        rw [hab, List.append_nil]; exact hn
      simp [h0, h2, h6, h7, h8, ha, hs]
      intro j x hj
      simp [hj, old j x hj]
    | cons t b =>
      simp only [List.length_cons] at hlen
      have hlt : (a.length : Int) < 16 := by omega
      have hlt2 : a.length ≤ 16 := by omega
      have hlt3 : a.length < 16 := by omega
      have hw1 : IntKind.i64.wrap ((a.length : Int) + 1) = a.length + 1 := IntWalk.i64_in _ (by omega)
      have hd : List.drop a.length (List.map AV.str signs) = .str t :: b.map .str := by
        rw [hab, List.map_append, List.drop_left' (by simp)]; rfl
      have hsl : signs.length = 16 := rfl
      simp [h0, h2, h6, h7, h8, hlt, hlt2, hlt3, hd, hsl]
      refine does_use (hasPrefix s t _) ?_
      rintro _ _ ⟨rfl, rfl⟩
      cases hp : t.isPrefixOf s with
      | true =>
        have hs : signOf s = some t := by
          unfold signOf
          rw [hab, List.find?_append, hn]
          simp [hp]
        simp [h0, h2, h6, h7, h8, hs]
        intro j x hj
        simp [hj, old j x hj]
      | false =>
        simp [h0, h2, h6, h7, h8, hw1]
        refine ⟨b.length, by omega, a ++ [t], b, by simp [hab], rfl, ?_, ?_⟩
        · rw [List.find?_eq_none] at hn
          intro x hx
          simp only [List.mem_append, List.mem_singleton] at hx
          rcases hx with hx | rfl
          · have := hn x hx
            rw [← List.isPrefixOf_iff_prefix]; simpa using this
          · rw [← List.isPrefixOf_iff_prefix, hp]; simp
        · simp [h3]
  · rintro hw ha r H1 ⟨hr, h⟩
    refine ⟨h, ?_, hr, rfl⟩
    cases hs : signOf s <;> rw [hs] at hr <;> subst hr <;> rfl
end Go.Proofs.YtajcehcdmbfhaaaGreatDoor

/-
  Words: between.
-/

namespace Go.Proofs.YtajcehcdmbfhaaaGreatDoor
open Go Go.Abs Go.Lex
variable {G : Nat → Option AV}

theorem drop_takeWhile (p : UInt8 → Bool) : ∀ s : Bs, s.drop (s.takeWhile p).length = s.dropWhile p
  | [] => rfl
  | b :: s => by
    rw [List.takeWhile_cons, List.dropWhile_cons]
    split
    · simpa using drop_takeWhile p s
    · rfl

theorem betw_line (s q : Bs) (h : s.dropWhile isBlank = 45 :: 45 :: q) : betw s = betw (q.dropWhile fun b => b != 10) := by
  rw [betw]
  split
  · rename_i q' h'
    rw [h] at h'
    simp only [List.cons.injEq, true_and] at h'
    rw [h']
  · rename_i h'
    exact absurd h (h' q)
theorem betw_word (s : Bs) (h : ([45, 45] : Bs).isPrefixOf (s.dropWhile isBlank) = false) : betw s = s.dropWhile isBlank := by
  rw [betw]
  split
  · rename_i q hq
    rw [hq] at h
    simp [List.isPrefixOf] at h
  · rfl
theorem betw_nil : betw [] = [] := betw_word [] rfl
@[simp] theorem take_drop_all {α : Type} (l : List α) (n : Nat) : List.take (l.length - n) (l.drop n) = l.drop n := by rw [List.take_of_length_le]; simp

theorem idxB_none {s : Bs} {c : UInt8} (h : s.findIdx? (fun b => b == c) = none) : s.dropWhile (fun b => b != c) = [] := by
  rw [List.findIdx?_eq_none_iff] at h
  induction s with
  | nil => rfl
  | cons b s ih =>
    rw [List.dropWhile_cons]
    have := h b (by simp)
    have e : (b != c) = true := by simp only [bne, this]; rfl
    rw [if_pos e]
    exact ih fun x hx => h x (by simp [hx])

theorem idxB_some {s : Bs} {c : UInt8} {i : Nat} (h : s.findIdx? (fun b => b == c) = some i) : s.dropWhile (fun b => b != c) = s.drop i ∧ i < s.length := by
  induction s generalizing i with
  | nil => simp at h
  | cons b s ih =>
    rw [List.findIdx?_cons] at h
    rw [List.dropWhile_cons]
    by_cases e : b = c
    · subst e
      simp at h
      subst h
      simp
    · have e1 : (b == c) = false := by simpa using e
      have e2 : (b != c) = true := by simp [bne, e1]
      rw [e1] at h
      simp only [Bool.false_eq_true, if_false, Option.map_eq_some_iff] at h
      obtain ⟨j, hj, rfl⟩ := h
      obtain ⟨h1, h2⟩ := ih hj
      rw [if_pos e2]
      exact ⟨by simpa using h1, by simp; omega⟩

theorem blankSet (b : UInt8) : ([32, 9, 10, 13] : Bs).contains b = isBlank b := by
  rw [Bool.eq_iff_iff]
  simp [isBlank, or_assoc]

theorem between_does (s : Bs) (hl : s.length ≤ 1000000) (H : AHeap) : Does Tryz.prog G 189 [.str s] H fun r H' => (∃ n : Nat, r = .int .i64 n ∧ n ≤ s.length ∧ s.drop n = betw s) ∧ H' = H := by
  refine does_f Tryz.call189 Tryz.func189 rfl (by simp [Tryz.f189]) ?_
  simp
  refine aws_loop (fun m T' H' => ∃ n : Nat, n ≤ s.length ∧ m = s.length - n ∧ betw (s.drop n) = betw s ∧ T' 0 = .str s ∧ T' 3 = .int .i64 n ∧ H' = H) s.length ⟨0, by omega, by omega, rfl, by simp⟩ ?_
  rintro m T H' ⟨n, hn, rfl, hb, h0, h3, rfl⟩
  have hn1 : (n : Int) ≤ s.length := by omega
  simp [h0, h3, hn, hn1]
  have hdl : (s.drop n).length = s.length - n := by simp
  refine does_use (while_does (s.drop n) _ isBlank blankSet (by decide) (by decide) (by decide) (by omega) _) ?_
  rintro _ _ ⟨rfl, rfl⟩
  have htl : ((s.drop n).takeWhile isBlank).length ≤ s.length - n := by
    rw [← hdl]; exact (List.takeWhile_prefix isBlank).length_le
  have hdd : s.drop (n + ((s.drop n).takeWhile isBlank).length) = (s.drop n).dropWhile isBlank := by
    rw [← List.drop_drop, drop_takeWhile]
  obtain ⟨k, hk⟩ : ∃ k, k = ((s.drop n).takeWhile isBlank).length := ⟨_, rfl⟩
  rw [← hk] at htl hdd ⊢
  obtain ⟨j, hj⟩ : ∃ j, j = n + k := ⟨_, rfl⟩
  have hw1 : IntKind.i64.wrap ((n : Int) + k) = (j : Int) := by rw [IntWalk.i64_in _ (by omega)]; omega
  have hk1 : (j : Int) ≤ s.length := by omega
  have hk2 : j ≤ s.length := by omega
  rw [← hj] at hdd
  simp [h0, h3, hw1, hk1, hk2]
  refine does_use (hasPrefix (s.drop j) [45, 45] _) ?_
  rintro _ _ ⟨rfl, rfl⟩
  cases hp : ([45, 45] : Bs).isPrefixOf (s.drop j) with
  | false =>
    simp [h0, h3]
    refine ⟨j, rfl, hk2, ?_⟩
    rw [← hb, betw_word _ (by rw [← hdd]; exact hp), hdd]
  | true =>
    simp [h0, h3, hk1, hk2]
    refine does_use (indexByte (s.drop j) 10 _) ?_
    rintro _ _ ⟨rfl, rfl⟩
    obtain ⟨q, hq⟩ : ∃ q, s.drop j = 45 :: 45 :: q := by
      rw [List.isPrefixOf_iff_prefix] at hp
      obtain ⟨t, ht⟩ := hp
      exact ⟨t, ht.symm⟩
    have hbq : betw s = betw ((s.drop j).dropWhile fun b => b != 10) := by
      rw [← hb, betw_line _ q (by rw [← hdd]; exact hq), hq]
      rfl
    unfold idxB
    cases hf : (s.drop j).findIdx? (fun b => b == 10) with
    | none =>
      simp [h0, h3]
      refine ⟨s.length, rfl, Nat.le_refl _, ?_⟩
      rw [hbq, idxB_none hf, betw_nil]; simp
    | some i =>
      obtain ⟨g1, g2⟩ := idxB_some hf
      have g3 : ¬ ((i : Int) < 0) := by omega
      have hi2 : 2 ≤ i := by
        rw [hq] at hf
        rw [List.findIdx?_cons, List.findIdx?_cons] at hf
        simp at hf
        omega
      simp only [List.length_drop] at g2
      have hw2 : IntKind.i64.wrap ((j : Int) + i) = ((j + i : Nat) : Int) := by rw [IntWalk.i64_in _ (by omega)]; omega
      simp [h0, h3, g3, hw2]
      refine ⟨s.length - (j + i), by omega, j + i, by omega, rfl, ?_, by omega⟩
      rw [hbq, g1, List.drop_drop]
end Go.Proofs.YtajcehcdmbfhaaaGreatDoor

/-
  strconv.ParseInt at a row of digits.
-/

namespace Go.Proofs.YtajcehcdmbfhaaaGreatDoor
open Go Go.Abs Go.Lex
variable {G : Nat → Option AV}

theorem numVal_snoc (s : Bs) (b : UInt8) : numVal (s ++ [b]) = 10 * numVal s + (b.toNat - 48) := by simp [numVal]
theorem numVal_ge (a : Bs) : ∀ b : Bs, numVal a ≤ numVal (a ++ b) := by
  intro b
  induction b generalizing a with
  | nil => simp
  | cons c b ih =>
    have := ih (a ++ [c])
    rw [numVal_snoc, List.append_assoc] at this
    simp only [List.singleton_append] at this
    omega

theorem strCs_append' (a b : Bs) : strCs (a ++ b) = strCs a ++ strCs b := by simp [strCs]

theorem wrap_u64 (n : Int) (h0 : 0 ≤ n) (h1 : n < 18446744073709551616) : IntKind.u64.wrap n = n := by
  unfold IntKind.wrap
  simp only [IntKind.signed, IntKind.bits, Bool.false_and, Bool.false_eq_true, if_false]
  exact Int.emod_eq_of_lt h0 (by omega)
theorem wrap_u64' (n : Int) (h0 : 18446744073709551616 ≤ n) (h1 : n < 36893488147419103232) : IntKind.u64.wrap n = n - 18446744073709551616 := by
  unfold IntKind.wrap
  simp only [IntKind.signed, IntKind.bits, Bool.false_and, Bool.false_eq_true, if_false]
  omega
theorem wrap_u8 (n : Int) (h0 : 0 ≤ n) (h1 : n < 256) : IntKind.u8.wrap n = n := by
  unfold IntKind.wrap
  simp only [IntKind.signed, IntKind.bits, Bool.false_and, Bool.false_eq_true, if_false]
  exact Int.emod_eq_of_lt h0 (by omega)

@[simp] theorem concErr : Tryz.prog.concrete 529 = true := by kernel_rfl
@[simp] theorem concNum : Tryz.prog.concrete 532 = true := by kernel_rfl

/-- The answer of ParseUint. -/
def uintOf (s : Bs) : AV := if numVal s < 18446744073709551616 then .tuple [.int .u64 (numVal s), .niliface] else .tuple [.int .u64 18446744073709551615, .iface 529 (.int .i64 1)]

set_option maxRecDepth 100000 in
theorem parseUint (s : Bs) (hd : ∀ b ∈ s, isDigit b = true) (hs : s ≠ []) (hl : s.length ≤ 1000000) (H : AHeap) :
    Does Tryz.prog G 385 [.str s, .int .i64 10, .int .i64 64] H fun r H' => r = uintOf s ∧ H' = H := by
  refine Does.forgot (R := fun r H' => r = uintOf s ∧ ∀ j x, H.get j = some x → H'.get j = some x) ?_ ?_
  · refine Does.wf Tryz.call385 fun hw _ => ?_
    have old : ∀ j x, H.get j = some x → j ≠ H.next := fun j x hj => by have := next_lt hw hj; omega
    refine does_f Tryz.call385 Tryz.func385 rfl (by simp [Tryz.f385]) ?_
    have hs1 : s.isEmpty = false := by cases s <;> simp_all
    have e1 : IntKind.u64.wrap 64 = 64 := by decide
    have e2 : IntKind.u64.wrap (2 ^ min 64 IntKind.u64.bits) = 0 := by decide
    have e3 : IntKind.u64.wrap (-1) = 18446744073709551615 := by decide
    simp [hs1, e1, e2, e3]
    refine aws_loop (fun m T' H' => ∃ a b, s = a ++ b ∧ m = b.length ∧ numVal a < 18446744073709551616 ∧ T' 1 = .int .i64 10 ∧ T' 8 = .bool false ∧ T' 10 = .int .u64 1844674407370955162 ∧ T' 11 = .int .u64 18446744073709551615 ∧ T' 12 = .bool false ∧ T' 13 = .int .u64 (numVal a) ∧
      T' 99 = .sl H.next 0 1 s.length s.length true ∧ T' 100 = .int .i64 s.length ∧ T' 101 = .int .i64 a.length ∧ H' = H.push (.cells (strCs s))) s.length ⟨[], s, rfl, rfl, by decide, by simp [numVal, strCs]⟩ ?_
    rintro m T H' ⟨a, b, rfl, rfl, hv, h1, h8, h10, h11, h12, h13, h99, h100, h101, rfl⟩
    simp only [List.length_append] at hl h99 h100
    cases b with
    | nil =>
      simp [h1, h8, h10, h11, h12, h13, h99, h100, h101]
      refine ⟨?_, ?_⟩
      · simp [uintOf, hv]
      · intro j x hj
        simp [hj, old j x hj]
    | cons c b =>
      simp only [List.length_cons] at hl
      have hc := hd c (by simp)
      simp only [isDigit, Bool.and_eq_true, decide_eq_true_eq] at hc
      obtain ⟨hc1, hc2⟩ := hc
      obtain ⟨d, hdd⟩ : ∃ d, d = c.toNat - 48 := ⟨_, rfl⟩
      have hlt : (a.length : Int) < a.length + (b.length + 1) := by omega
      have hle : a.length ≤ a.length + (b.length + 1) := by omega
      have hw1 : IntKind.i64.wrap ((a.length : Int) + 1) = a.length + 1 := IntWalk.i64_in _ (by omega)
      have hdr : List.drop a.length (strCs (a ++ c :: b)) = .int .u8 c.toNat :: strCs b := by
        rw [strCs_append', List.drop_left' (by simp [strCs])]; rfl
      have hsl : (strCs (a ++ c :: b)).length = a.length + (b.length + 1) := by simp [strCs]
      have n1 : ¬ (c.toNat : Int) = 95 := by omega
      have n2 : (48 : Int) ≤ c.toNat := by omega
      have n3 : (c.toNat : Int) ≤ 57 := by omega
      have n4 : IntKind.u8.wrap ((c.toNat : Int) - 48) = d := by rw [wrap_u8 _ (by omega) (by omega)]; omega
      have n5 : IntKind.u8.wrap 10 = 10 := by decide
      have n6 : ¬ (10 : Int) ≤ d := by omega
      have n7 : IntKind.u64.wrap 10 = 10 := by decide
      have n8 : IntKind.u64.wrap (d : Int) = d := wrap_u64 _ (by omega) (by omega)
      have hn : numVal (a ++ [c]) = 10 * numVal a + d := by rw [numVal_snoc]; omega
      have hge := numVal_ge (a ++ [c]) b
      rw [List.append_assoc, List.singleton_append] at hge
      obtain ⟨v, hvv⟩ : ∃ v, v = numVal a := ⟨_, rfl⟩
      rw [← hvv] at hv h13 hn
      by_cases g1 : 1844674407370955162 ≤ v
      · have g1' : (1844674407370955162 : Int) ≤ v := by omega
        have hbig : ¬ numVal (a ++ c :: b) < 18446744073709551616 := by omega
        simp [h1, h8, h10, h11, h12, h13, h99, h100, h101, hlt, hle, hdr, hsl, n1, n2, n3, n4, n5, n6, n7, n8, g1']
        refine ⟨?_, ?_⟩
        · unfold uintOf; rw [if_neg hbig]
        · intro j x hj
          simp [hj, old j x hj]
      · have g1' : ¬ (1844674407370955162 : Int) ≤ v := by omega
        have m1 : IntKind.u64.wrap ((v : Int) * 10) = v * 10 := wrap_u64 _ (by omega) (by omega)
        by_cases g2 : 10 * v + d < 18446744073709551616
        · have m2 : IntKind.u64.wrap ((v : Int) * 10 + d) = v * 10 + d := wrap_u64 _ (by omega) (by omega)
          have m3 : ¬ ((v : Int) * 10 + d < v * 10) := by omega
          have m4 : ¬ ((18446744073709551615 : Int) < v * 10 + d) := by omega
          simp [h1, h8, h10, h11, h12, h13, h99, h100, h101, hlt, hle, hdr, hsl, n1, n2, n3, n4, n5, n6, n7, n8, g1', m1, m2, m3, m4, hw1]
          refine ⟨b.length, by omega, a ++ [c], b, by simp, rfl, by omega, ?_⟩
          simp [hn]
          omega
        · have m2 : IntKind.u64.wrap ((v : Int) * 10 + d) = v * 10 + d - 18446744073709551616 := wrap_u64' _ (by omega) (by omega)
          have m3 : ((v : Int) * 10 + d - 18446744073709551616 < v * 10) := by omega
          have hbig : ¬ numVal (a ++ c :: b) < 18446744073709551616 := by omega
          simp [h1, h8, h10, h11, h12, h13, h99, h100, h101, hlt, hle, hdr, hsl, n1, n2, n3, n4, n5, n6, n7, n8, g1', m1, m2, m3]
          refine ⟨?_, ?_⟩
          · unfold uintOf; rw [if_neg hbig]
          · intro j x hj
            simp [hj, old j x hj]
  · rintro hw ha r H1 ⟨rfl, h⟩
    refine ⟨h, ?_, rfl, rfl⟩
    unfold uintOf; split <;> rfl
end Go.Proofs.YtajcehcdmbfhaaaGreatDoor

/-
  strconv.ParseInt at a row of digits; a number's word.
-/




namespace Go.Proofs.YtajcehcdmbfhaaaGreatDoor
open Go Go.Abs Go.Lex
variable {G : Nat → Option AV}

theorem wrap_i64 (n : Int) (h0 : 0 ≤ n) (h1 : n < 9223372036854775808) : IntKind.i64.wrap n = n := IntWalk.i64_in _ (by omega)

/-- The answer of ParseInt. -/
def intOf (s : Bs) : AV := if numVal s < 9223372036854775808 then .tuple [.int .i64 (numVal s), .niliface] else .tuple [.int .i64 9223372036854775807, .iface 529 (.int .i64 1)]

set_option maxRecDepth 100000 in
theorem parseInt (s : Bs) (hd : ∀ b ∈ s, isDigit b = true) (hs : s ≠ []) (hl : s.length ≤ 1000000) (H : AHeap) :
    Does Tryz.prog G 277 [.str s, .int .i64 10, .int .i64 64] H fun r H' => r = intOf s ∧ H' = H := by
  refine does_f Tryz.call277 Tryz.func277 rfl (by simp [Tryz.f277]) ?_
  cases s with
  | nil => exact absurd rfl hs
  | cons c q =>
    have hc := hd c (by simp)
    simp only [isDigit, Bool.and_eq_true, decide_eq_true_eq] at hc
    have n1 : ¬ (c.toNat : Int) = 43 := by omega
    have n2 : ¬ (c.toNat : Int) = 45 := by omega
    have m1 : (0 : Int) < q.length + 1 := by omega
    simp [n1, n2, m1]
    refine does_use (parseUint (c :: q) hd hs hl H) ?_
    rintro _ _ ⟨rfl, rfl⟩
    have e1 : IntKind.u64.wrap 63 = 63 := by decide
    have e2 : IntKind.u64.wrap (2 ^ min 63 IntKind.u64.bits) = 9223372036854775808 := by decide
    have e3 : IntKind.u64.wrap 9223372036854775807 = 9223372036854775807 := by decide
    have e4 : IntKind.i64.wrap 9223372036854775807 = 9223372036854775807 := by decide
    have e5 : IntKind.i64.wrap 63 = 63 := by decide
    have e6 : Tryz.t529.comparable = true := by kernel_rfl
    obtain ⟨v, hv⟩ : ∃ v, v = numVal (c :: q) := ⟨_, rfl⟩
    unfold uintOf intOf
    rw [← hv]
    by_cases g1 : v < 9223372036854775808
    · have g2 : v < 18446744073709551616 := by omega
      have g3 : ¬ (9223372036854775808 : Int) ≤ v := by omega
      have g4 : IntKind.i64.wrap (v : Int) = v := wrap_i64 _ (by omega) (by omega)
      rw [if_pos g2, if_pos g1]
      simp [e1, e2, e3, e4, e5, e6, g3, g4]
    · rw [if_neg g1]
      by_cases g2 : v < 18446744073709551616
      · have g3 : (9223372036854775808 : Int) ≤ v := by omega
        rw [if_pos g2]
        simp [e1, e2, e3, e4, e5, e6, g3]
      · rw [if_neg g2]
        simp [e1, e2, e3, e4, e5, e6]

theorem mixedOrders : Tryz.prog.follows .mixedOrders = true := by kernel_rfl

/-- The library's own error value is there. -/
def HasErr (G : Nat → Option AV) : Prop := ∃ t v, G 7 = some (.vptr [.iface t v])

set_option maxRecDepth 100000 in
theorem rangeError (s : Bs) (fn : Bs) (hl : s.length ≤ 1000000) (hG : HasErr G) (H : AHeap) : Does Tryz.prog G 387 [.str fn, .str s] H fun r H' => r = .ptr H.next 0 ∧ ∃ cs, H' = H.push (.cells cs) := by
  obtain ⟨et, ev, he⟩ := hG
  refine does_f Tryz.call387 Tryz.func387 rfl (by simp [Tryz.f387]) ?_
  simp
  refine aw_drawn [(3, 0), (3, 3)] ?_ ?_ ?_
  · exact mixedOrders
  · kernel_rfl
  intro es hes
  simp
  refine ⟨_, _, copy_does isCopy s (by omega) H, by simp, ?_⟩
  simp [he, rds, heapF]
  refine ⟨?_, _, rfl⟩
  subst hes
  exact ⟨by kernel_rfl, by kernel_rfl⟩

set_option maxRecDepth 100000 in
theorem toError (s : Bs) (fn : Bs) (hl : s.length ≤ 1000000) (hG : HasErr G) (H : AHeap) : Does Tryz.prog G 278 [.str fn, .str s, .int .i64 10, .int .i64 64, .iface 529 (.int .i64 1)] H fun r H' => r = .iface 532 (.ptr H.next 0) ∧ ∃ cs, H' = H.push (.cells cs) := by
  have e6 : Tryz.t529.comparable = true := by kernel_rfl
  refine does_f Tryz.call278 Tryz.func278 rfl (by simp [Tryz.f278]) ?_
  simp [e6]
  refine does_use (rangeError s fn hl hG H) ?_
  rintro _ _ ⟨rfl, cs, rfl⟩
  simp
  exact ⟨cs, rfl⟩

set_option maxRecDepth 100000 in
theorem parseInt' (s : Bs) (hd : ∀ b ∈ s, isDigit b = true) (hs : s ≠ []) (hl : s.length ≤ 1000000) (hG : HasErr G) (H : AHeap) :
    Does Tryz.prog G 187 [.str s, .int .i64 10, .int .i64 64] H fun r H' => (if numVal s < 9223372036854775808 then r = .tuple [.int .i64 (numVal s), .niliface] ∧ H' = H else r = .tuple [.int .i64 9223372036854775807, .iface 532 (.ptr H.next 0)] ∧ ∃ cs, H' = H.push (.cells cs)) := by
  refine does_f Tryz.call187 Tryz.func187 rfl (by simp [Tryz.f187]) ?_
  simp
  refine does_use (parseInt s hd hs hl H) ?_
  rintro _ _ ⟨rfl, rfl⟩
  unfold intOf
  by_cases h : numVal s < 9223372036854775808
  · rw [if_pos h]
    simp [h]
  · rw [if_neg h]
    simp [h]
    refine does_use (toError s _ hl hG _) ?_
    rintro _ _ ⟨rfl, cs, rfl⟩
    simp
    exact ⟨by omega, cs, rfl⟩

/-- What a row of digits gives. -/
def numN (s : Bs) : Int := if numVal s < 9223372036854775808 then numVal s else 9223372036854775807
def numOk (s : Bs) : Bool := decide (numVal s < 9223372036854775808) && (decide (s.length = 1) || decide (s.head? ≠ some 48))

set_option maxRecDepth 100000 in
theorem number_does (s : Bs) (hd : ∀ b ∈ s, isDigit b = true) (hs : s ≠ []) (hl : s.length ≤ 1000000) (hG : HasErr G) (H : AHeap) :
    Does Tryz.prog G 284 [.str s] H fun r H' => r = .tuple [.agg [.int .i64 3, .str s, .int .i64 (numN s), .int .i64 0], .bool (numOk s)] ∧ H' = H := by
  refine Does.forgot (R := fun r H' => r = .tuple [.agg [.int .i64 3, .str s, .int .i64 (numN s), .int .i64 0], .bool (numOk s)] ∧ ∀ j x, H.get j = some x → H'.get j = some x) ?_ ?_
  · refine Does.wf Tryz.call284 fun hw _ => ?_
    have old : ∀ j x, H.get j = some x → j ≠ H.next ∧ j ≠ H.next + 1 := fun j x hj => by have := next_lt hw hj; omega
    refine does_f Tryz.call284 Tryz.func284 rfl (by simp [Tryz.f284]) ?_
    simp
    refine does_use (parseInt' s hd hs hl hG _) ?_
    rintro r H1 hr
    obtain ⟨c, q, rfl⟩ : ∃ c q, s = c :: q := by
      cases s with
      | nil => exact absurd rfl hs
      | cons c q => exact ⟨c, q, rfl⟩
    have h0 : (0 : Int) < q.length + 1 := by omega
    have hg : (if numVal (c :: q) < 9223372036854775808 then r = .tuple [.int .i64 (numVal (c :: q)), .niliface] else ∃ i, r = .tuple [.int .i64 9223372036854775807, .iface 532 (.ptr i 0)]) ∧ H1.get H.next = some (.cells [.int .i64 0, .str [], .int .i64 0, .int .i64 0]) ∧ ∀ j x, H.get j = some x → H1.get j = some x := by
      by_cases h : numVal (c :: q) < 9223372036854775808
      · rw [if_pos h] at hr ⊢
        obtain ⟨rfl, rfl⟩ := hr
        exact ⟨rfl, by simp, fun j x hj => by simp [hj, old j x hj]⟩
      · rw [if_neg h] at hr ⊢
        obtain ⟨rfl, cs, rfl⟩ := hr
        exact ⟨⟨_, rfl⟩, by simp, fun j x hj => by simp [hj, old j x hj]⟩
    clear hr
    obtain ⟨hr, hf, hk⟩ := hg
    have fin : ∀ j x, H.get j = some x → ∀ cs, (H1.set H.next (.cells cs)).get j = some x := fun j x hj cs => by
      simp only [AHeap.get_set]
      rw [if_neg (old j x hj).1]; exact hk j x hj
    by_cases h : numVal (c :: q) < 9223372036854775808
    · rw [if_pos h] at hr
      subst hr
      simp
      refine aw_drawn [] mixedOrders (by kernel_rfl) ?_
      intro es hes
      by_cases hq : q = []
      · subst hq
        simp [hf, rds]
        refine ⟨?_, ?_, fun j x hj => ?_⟩
        · subst hes
          exact ⟨by kernel_rfl, by kernel_rfl⟩
        · simp [numN, numOk, h]
        · simp [old j x hj, hk j x hj]
      · have hq0 : q.length ≠ 0 := by simpa using hq
        have hq1 : ¬ ((q.length : Int) + 1 = 1) := by omega
        have hq2 : ((c.toNat : Int) = 48) ↔ c = 48 := by
          constructor
          · intro e
            have e1 : c.toNat = (48 : UInt8).toNat := by simpa using (by omega : c.toNat = 48)
            exact UInt8.toNat_inj.1 e1
          · rintro rfl; rfl
        simp [hf, rds, hq, hq1, h0]
        refine ⟨?_, ?_, fun j x hj => ?_⟩
        · subst hes
          exact ⟨by kernel_rfl, by kernel_rfl⟩
        · have hq3 : ((c.toNat : Int) != 48) = !decide (c = 48) := by
            rw [Bool.eq_iff_iff]
            simp [hq2]
          simp [numN, numOk, h, hq, hq3]
        · simp [old j x hj, hk j x hj]
    · rw [if_neg h] at hr
      obtain ⟨i, rfl⟩ := hr
      simp
      refine aw_drawn [] mixedOrders (by kernel_rfl) ?_
      intro es hes
      simp [hf, rds]
      refine ⟨?_, ?_, fun j x hj => ?_⟩
      · subst hes
        exact ⟨by kernel_rfl, by kernel_rfl⟩
      · simp [numN, numOk, h]
      · simp [old j x hj, hk j x hj]
  · rintro hw ha r H1 ⟨rfl, h⟩
    exact ⟨h, rfl, rfl, rfl⟩
end Go.Proofs.YtajcehcdmbfhaaaGreatDoor

/-
  Words: the word that a text begins with.
-/

namespace Go.Proofs.YtajcehcdmbfhaaaGreatDoor
open Go Go.Abs Go.Lex
variable {G : Nat → Option AV}

def lettersL : Bs := [97,98,99,100,101,102,103,104,105,106,107,108,109,110,111,112,113,114,115,116,117,118,119,120,121,122]
def digitsL : Bs := [48,49,50,51,52,53,54,55,56,57]
def namesL : Bs := [97,98,99,100,101,102,103,104,105,106,107,108,109,110,111,112,113,114,115,116,117,118,119,120,121,122,48,49,50,51,52,53,54,55,56,57,95]

theorem byAll (p q : UInt8 → Bool) (h : ∀ n : Fin 256, p (UInt8.ofNat n.val) = q (UInt8.ofNat n.val)) (b : UInt8) : p b = q b := by
  have := h ⟨b.toNat, b.toNat_lt⟩
  simpa using this
theorem letters_eq (b : UInt8) : lettersL.contains b = isLetter b := byAll _ _ (by decide +kernel) b
theorem digits_eq (b : UInt8) : digitsL.contains b = isDigit b := byAll _ _ (by decide +kernel) b
theorem names_eq (b : UInt8) : namesL.contains b = isNamec b := byAll _ _ (by decide +kernel) b

theorem take_takeWhile (p : UInt8 → Bool) (s : Bs) : s.take (s.takeWhile p).length = s.takeWhile p := by
  have := List.takeWhile_prefix p (l := s)
  rw [List.prefix_iff_eq_take] at this
  exact this.symm

/-- A word's cells. -/
def wdCells (w : Wd) (i : Nat) : List AV := [.int .i64 w.kind, .str w.text, .int .i64 w.n, .int .i64 i]

def WordIs (s : Bs) (r : AV) : Prop := match wordS s with
  | some w => r = .tuple [.agg (wdCells w 0), .bool true]
  | none => ∃ k t n, r = .tuple [.agg [.int .i64 k, .str t, .int .i64 n, .int .i64 0], .bool false]

set_option maxRecDepth 100000 in
theorem word_does (c : UInt8) (q : Bs) (hl : (c :: q).length ≤ 1000000) (hG : HasErr G) (H : AHeap) : Does Tryz.prog G 190 [.str (c :: q)] H fun r H' => WordIs (c :: q) r ∧ H' = H := by
  refine Does.forgot (R := fun r H' => WordIs (c :: q) r ∧ ∀ j x, H.get j = some x → H'.get j = some x) ?_ ?_
  · refine Does.wf Tryz.call190 fun hw _ => ?_
    have old : ∀ j x, H.get j = some x → j ≠ H.next ∧ j ≠ H.next + 1 := fun j x hj => by have := next_lt hw hj; omega
    refine does_f Tryz.call190 Tryz.func190 rfl (by simp [Tryz.f190]) ?_
    have m1 : (1 : Int) ≤ q.length + 1 := by omega
    simp [m1]
    refine does_use (contains1 lettersL c _) ?_
    rintro _ _ ⟨rfl, rfl⟩
    rw [letters_eq]
    cases hL : isLetter c with
    | true =>
      simp
      refine does_use (while_does (c :: q) namesL isNamec names_eq (by decide) (by decide) (by decide) hl _) ?_
      rintro _ _ ⟨rfl, rfl⟩
      have ht := take_takeWhile isNamec (c :: q)
      have hle : ((c :: q).takeWhile isNamec).length ≤ (c :: q).length := (List.takeWhile_prefix isNamec).length_le
      obtain ⟨t, htt⟩ : ∃ t, t = (c :: q).takeWhile isNamec := ⟨_, rfl⟩
      rw [← htt] at ht hle ⊢
      simp only [List.length_cons] at hle
      have hle' : (t.length : Int) ≤ q.length + 1 := by omega
      simp [hle, hle', ht]
      refine does_use (kept_does t _) ?_
      rintro _ _ ⟨rfl, rfl⟩
      cases hk : kept t with
      | true =>
        simp
        refine ⟨?_, ?_⟩
        · simp [WordIs, wordS, hL, ← htt, hk, wdCells]
        · intro j x hj
          simp [hj, old j x hj]
      | false =>
        simp
        refine ⟨?_, ?_⟩
        · by_cases h24 : t.length ≤ 24
          · have : (t.length : Int) ≤ 24 := by omega
            simp [WordIs, wordS, hL, ← htt, hk, wdCells, h24, this]
          · have : ¬ (t.length : Int) ≤ 24 := by omega
            simp [WordIs, wordS, hL, ← htt, hk, wdCells, h24, this]
        · intro j x hj
          simp [hj, old j x hj]
    | false =>
      simp
      refine does_use (contains1 digitsL c _) ?_
      rintro _ _ ⟨rfl, rfl⟩
      rw [digits_eq]
      cases hD : isDigit c with
      | true =>
        simp
        refine does_use (while_does (c :: q) digitsL isDigit digits_eq (by decide) (by decide) (by decide) hl _) ?_
        rintro _ _ ⟨rfl, rfl⟩
        have ht := take_takeWhile isDigit (c :: q)
        have hle : ((c :: q).takeWhile isDigit).length ≤ (c :: q).length := (List.takeWhile_prefix isDigit).length_le
        have hall : ∀ b ∈ (c :: q).takeWhile isDigit, isDigit b = true := fun b hb => List.all_eq_true.1 (List.all_takeWhile) b hb
        have hcons : (c :: q).takeWhile isDigit = c :: q.takeWhile isDigit := by rw [List.takeWhile_cons, if_pos hD]
        obtain ⟨t, htt⟩ : ∃ t, t = (c :: q).takeWhile isDigit := ⟨_, rfl⟩
        rw [← htt] at ht hle hall hcons ⊢
        simp only [List.length_cons] at hle hl
        have hle' : (t.length : Int) ≤ q.length + 1 := by omega
        simp [hle, hle', ht]
        refine does_use (number_does t hall (by rw [hcons]; simp) (by omega) hG _) ?_
        rintro _ _ ⟨rfl, rfl⟩
        simp
        refine ⟨?_, ?_⟩
        · have hh : t.head? = some c := by rw [hcons]; rfl
          unfold WordIs wordS numOk numN
          simp only [hL, hD, ← htt, hh]
          by_cases g1 : numVal t < 9223372036854775808
          · by_cases g2 : t.length = 1 ∨ c ≠ 48
            · rcases g2 with g2 | g2 <;> simp [g1, g2, wdCells]
            · simp only [not_or] at g2
              simp [g1, g2.1, Decidable.not_not.1 g2.2]
          · simp [g1]
        · intro j x hj
          simp [hj, old j x hj]
      | false =>
        simp
        refine does_use (sign_does (c :: q) _) ?_
        rintro r _ ⟨hr, rfl⟩
        cases hs : signOf (c :: q) with
        | some t =>
          rw [hs] at hr
          simp only at hr
          subst hr
          simp
          refine ⟨?_, ?_⟩
          · simp [WordIs, wordS, hL, hD, hs, wdCells]
          · intro j x hj
            simp [hj, old j x hj]
        | none =>
          rw [hs] at hr
          simp only at hr
          subst hr
          simp
          refine ⟨?_, ?_⟩
          · simp [WordIs, wordS, hL, hD, hs, wdCells]
          · intro j x hj
            simp [hj, old j x hj]
  · rintro hw ha r H1 ⟨hr, h⟩
    refine ⟨h, ?_, hr, rfl⟩
    unfold WordIs at hr
    split at hr
    · subst hr; rfl
    · obtain ⟨k, t, n, rfl⟩ := hr; rfl
end Go.Proofs.YtajcehcdmbfhaaaGreatDoor

/-
  Words: a text cut.
-/


namespace Go.Proofs.YtajcehcdmbfhaaaGreatDoor
open Go Go.Abs Go.Lex
variable {G : Nat → Option AV}

def flatW : List (Nat × Wd) → List AV
  | [] => []
  | (i, w) :: l => wdCells w i ++ flatW l
theorem flatW_append (a b : List (Nat × Wd)) : flatW (a ++ b) = flatW a ++ flatW b := by
  induction a with
  | nil => rfl
  | cons x a ih => obtain ⟨i, w⟩ := x; simp [flatW, ih]
@[simp] theorem wdCells_length (w : Wd) (i : Nat) : (wdCells w i).length = 4 := rfl
@[simp] theorem flatW_length (l : List (Nat × Wd)) : (flatW l).length = l.length * 4 := by
  induction l with
  | nil => rfl
  | cons x l ih => obtain ⟨i, w⟩ := x; simp [flatW, ih]; omega
theorem flatW_scalar (l : List (Nat × Wd)) : ∀ x ∈ flatW l, x.scalar = true := by
  induction l with
  | nil => simp [flatW]
  | cons y l ih =>
    obtain ⟨i, w⟩ := y
    intro x hx
    simp only [flatW, wdCells, List.cons_append, List.nil_append, List.mem_cons] at hx
    rcases hx with rfl | rfl | rfl | rfl | hx
    · rfl
    · rfl
    · rfl
    · rfl
    · exact ih x hx

/-- Cut's answer. -/
def cutAns (t : Bs) : AV := if 16384 < t.length then .tuple [.nilsl, .agg [.int .i64 2, .int .i64 t.length]] else match cutS t.length t with
  | .ok l => .tuple [.vsl (flatW l ++ [.int .i64 0, .str [], .int .i64 0, .int .i64 t.length]) (l.length + 1), .agg [.int .i64 0, .int .i64 0]]
  | .error e => .tuple [.nilsl, .agg [.int .i64 7, .int .i64 e]]

/-- The words so far: where they lie. -/
def Wrds (H : AHeap) (lo : Nat) (x : AV) (ws : List (Nat × Wd)) : Prop := (x = .nilsl ∧ ws = []) ∨ ∃ b, x = .sl b 0 4 ws.length ws.length true ∧ lo ≤ b ∧ H.get b = some (.cells (flatW ws))

def CutR (H : AHeap) (t : Bs) (r : AV) (H1 : AHeap) : Prop := (∀ j x, H.get j = some x → H1.get j = some x) ∧
  (if 16384 < t.length then r = .tuple [.nilsl, .agg [.int .i64 2, .int .i64 t.length]] else match cutS t.length t with
  | .ok l => ∃ b, H.next ≤ b ∧ r = .tuple [.sl b 0 4 (l.length + 1) (l.length + 1) true, .agg [.int .i64 0, .int .i64 0]] ∧ H1.get b = some (.cells (flatW l ++ [.int .i64 0, .str [], .int .i64 0, .int .i64 t.length]))
  | .error e => r = .tuple [.nilsl, .agg [.int .i64 7, .int .i64 e]])

theorem CutR.okEnd {H : AHeap} {t : Bs} {ws : List (Nat × Wd)} {H2 : AHeap} {b : Nat} (hL : ¬ 16384 < t.length) (hc : cutS t.length t = .ok ws) (hb : H.next ≤ b)
    (hg : H2.get b = some (.cells (flatW ws ++ [.int .i64 0, .str [], .int .i64 0, .int .i64 t.length]))) (hk : ∀ j x, H.get j = some x → H2.get j = some x) :
    CutR H t (.tuple [.sl b 0 4 (ws.length + 1) (ws.length + 1) true, .agg [.int .i64 0, .int .i64 0]]) H2 := by
  refine ⟨hk, ?_⟩
  rw [if_neg hL, hc]
  exact ⟨b, hb, rfl, hg⟩
theorem CutR.badEnd {H : AHeap} {t : Bs} {e : Nat} {H2 : AHeap} (hL : ¬ 16384 < t.length) (hc : cutS t.length t = .error e) (hk : ∀ j x, H.get j = some x → H2.get j = some x) :
    CutR H t (.tuple [.nilsl, .agg [.int .i64 7, .int .i64 e]]) H2 := by
  refine ⟨hk, ?_⟩
  rw [if_neg hL, hc]

set_option maxRecDepth 100000 in
theorem cut_live (t : Bs) (hG : HasErr G) (H : AHeap) (hbig : t.length < 9223372036854775808) : Does Tryz.prog G 99 [.str t] H (CutR H t) := by
  refine Does.wf Tryz.call99 fun hw _ => ?_
  have old : ∀ j x, H.get j = some x → j < H.next := fun j x hj => next_lt hw hj
  refine does_f Tryz.call99 Tryz.func99 rfl (by simp [Tryz.f99]) ?_
  by_cases hL : 16384 < t.length
  · have hL' : (16384 : Int) < t.length := by omega
    simp [hL']
    refine ⟨fun j x hj => ?_, by simp [hL]⟩
    have := old j x hj
    have h1 : j ≠ H.next := by omega
    simp [hj, h1]
  · have hL' : ¬ (16384 : Int) < t.length := by omega
    simp [hL']
    refine does_use (between_does t (by omega) _) ?_
    rintro _ _ ⟨⟨n, rfl, hn, hbn⟩, rfl⟩
    simp
    refine aws_loopw (fun m T' H' => ∃ (ws : List (Nat × Wd)) (rest : Bs) (n : Nat), cutS t.length t = aheadW ws (cutS t.length rest) ∧ n ≤ t.length ∧ t.drop n = betw rest ∧ m = t.length - n ∧ ws.length ≤ n ∧
      T' 0 = .str t ∧ T' 3 = .ptr H.next 0 ∧ T' 5 = .int .i64 n ∧ Wrds H' (H.next + 1) (T' 4) ws ∧ H'.get H.next = some (.cells [.int .i64 0, .int .i64 0]) ∧ (∀ j x, H.get j = some x → H'.get j = some x)) (t.length - n) ?_ ?_
    · refine ⟨[], t, n, ?_, hn, hbn, rfl, by simp, by simp, by simp, by simp, .inl ⟨by simp, rfl⟩, by simp, fun j x hj => ?_⟩
      · cases cutS t.length t <;> rfl
      · have := old j x hj
        have h1 : j ≠ H.next := by omega
        simp [hj, h1]
    rintro m T H1 ⟨ws, rest, n, hcut, hn, hbn, rfl, hws, h0, h3, h5, h4, hf, hkeep⟩ hw1 _
    have oldn : ∀ j x, H1.get j = some x → j < H1.next := fun j x hj => next_lt hw1 hj
    have hfn := oldn _ _ hf
    have hne : H.next ≠ H1.next := by omega
    have hne2 : H.next ≠ H1.next + 1 := by omega
    have hne3 : H.next ≠ H1.next + 1 + 1 := by omega
    have hgrow : ¬ (ws.length + 1 ≤ ws.length) := by omega
    have hws' : ws.length ≤ 16384 := by omega
    by_cases hend : n = t.length
    · subst hend
      have hnil : betw rest = [] := by rw [← hbn]; simp
      have hc : cutS t.length t = .ok ws := by rw [hcut, cutS_end hnil]; simp [aheadW]
      have hfin : ∀ j x, H.get j = some x → H1.get j = some x ∧ j ≠ H.next ∧ j ≠ H1.next ∧ j ≠ H1.next + 1 := fun j x hj => by
        have := old j x hj
        have := oldn j x (hkeep j x hj)
        exact ⟨hkeep j x hj, by omega, by omega, by omega⟩
      rcases h4 with ⟨h4, rfl⟩ | ⟨b, h4, hlo, hb⟩
      · simp [h0, h3, h4, h5, hf, hne, hne2, hne3]
        refine CutR.okEnd hL hc (by omega) (by simp [flatW, Ne.symm hne2]) fun j x hj => ?_
        obtain ⟨k1, k2, k3, k4⟩ := hfin j x hj
        simp [k1, k2, k3, k4]
      · have hbn' := oldn _ _ hb
        have hb1 : b ≠ H1.next := by omega
        have hb2 : H.next ≠ b := by omega
        have hl1 : (ws.length + 1) * 40 ≤ 140737488355328 := by omega
        have hl2 : ws.length ≤ 4611686018427387903 := by omega
        simp [h0, h3, h4, h5, hf, hne, hne2, hne3, hb, hb1, hb2, hgrow, hl1, hl2]
        have htk : List.take (ws.length * 4) (flatW ws) = flatW ws := by rw [List.take_of_length_le]; simp
        rw [htk]
        refine CutR.okEnd hL hc (by omega) (by simp [Ne.symm hne2]) fun j x hj => ?_
        obtain ⟨k1, k2, k3, k4⟩ := hfin j x hj
        have := old j x hj
        have k5 : j ≠ b := by omega
        simp [k1, k2, k3, k4, k5]
    · have hlt : (n : Int) < t.length := by omega
      have hn' : (n : Int) ≤ t.length := by omega
      obtain ⟨c, q, hcq⟩ : ∃ c q, t.drop n = c :: q := by
        cases h : t.drop n with
        | nil => rw [List.drop_eq_nil_iff] at h; omega
        | cons c q => exact ⟨c, q, rfl⟩
      have hlen : (c :: q).length = t.length - n := by rw [← hcq]; simp
      rw [hcq] at hbn
      have htk0 : List.take (t.length - n) (c :: q) = c :: q := by rw [List.take_of_length_le]; omega
      simp [h0, h3, h4, h5, hf, hlt, hn, hn', hcq, htk0]
      refine does_use (word_does c q (by omega) hG _) ?_
      rintro r H2 ⟨hr, e⟩
      subst e
      have hkeep2 : ∀ j x, H.get j = some x → H2.get j = some x ∧ j ≠ H.next ∧ j ≠ H2.next ∧ j ≠ H2.next + 1 ∧ j ≠ H2.next + 1 + 1 := fun j x hj => by
        have := old j x hj
        have := oldn j x (hkeep j x hj)
        exact ⟨hkeep j x hj, by omega, by omega, by omega, by omega⟩
      unfold WordIs at hr
      cases hwd : wordS (c :: q) with
      | none =>
        rw [hwd] at hr
        simp only at hr
        obtain ⟨k, tx, nn, rfl⟩ := hr
        have hc : cutS t.length t = .error n := by
          rw [hcut, cutS_bad hbn.symm hwd, hlen]
          simp only [aheadW]
          congr 1
          omega
        simp [h0, h3, h4, h5, hf, hne]
        refine CutR.badEnd hL hc fun j x hj => ?_
        obtain ⟨k1, k2, k3, k4, k5⟩ := hkeep2 j x hj
        simp [k1, k2, k3]
      | some w =>
        rw [hwd] at hr
        simp only at hr
        subst hr
        obtain ⟨hpre, htne⟩ := wordS_text hwd
        have hwl : w.text.length ≤ (c :: q).length := hpre.length_le
        have hwl0 : w.text.length ≠ 0 := by simpa using htne
        rw [hlen] at hwl
        have hw1 : IntKind.i64.wrap ((n : Int) + w.text.length) = ((n + w.text.length : Nat) : Int) := by rw [IntWalk.i64_in _ (by omega)]; omega
        have hn2 : ((n + w.text.length : Nat) : Int) ≤ t.length := by omega
        have hn3 : n + w.text.length ≤ t.length := by omega
        have hrest : t.drop (n + w.text.length) = (c :: q).drop w.text.length := by rw [← List.drop_drop, hcq]
        obtain ⟨n2, hn2'⟩ : ∃ n2, n2 = n + w.text.length := ⟨_, rfl⟩
        rw [← hn2'] at hw1 hn2 hn3 hrest
        have hcut2 : cutS t.length t = aheadW (ws ++ [(n, w)]) (cutS t.length (t.drop n2)) := by
          rw [hcut, cutS_word hbn.symm hwd, hrest, hlen]
          have e : t.length - (t.length - n) = n := by omega
          rw [e]
          cases cutS t.length ((c :: q).drop w.text.length) <;> simp [aheadW]
        rcases h4 with ⟨h4, rfl⟩ | ⟨b, h4, hlo, hb⟩
        · simp [h0, h3, h4, h5, hf, hne, hne2, hne3, wdCells, hw1, hn2, hn3]
          refine does_use (between_does (t.drop n2) (by simp; omega) _) ?_
          rintro _ _ ⟨⟨k, rfl, hk, hk2⟩, rfl⟩
          simp only [List.length_drop] at hk
          have hw2 : IntKind.i64.wrap ((n2 : Int) + k) = ((n2 + k : Nat) : Int) := by rw [IntWalk.i64_in _ (by omega)]; omega
          simp [h0, h3, h4, h5, hf, hne, hne2, hne3, hw2]
          refine ⟨t.length - (n2 + k), by omega, [(n, w)], t.drop n2, by simpa using hcut2, n2 + k, by omega, by rw [← List.drop_drop]; exact hk2, rfl, by simp; omega, by omega, .inr ⟨H2.next + 1 + 1, rfl, by omega, by simp [flatW, wdCells]⟩, fun j x hj => ?_⟩
          obtain ⟨k1, k2, k3, k4, k5⟩ := hkeep2 j x hj
          simp [k1, k3, k4, k5]
        · have hbn' := oldn _ _ hb
          have hb1 : b ≠ H2.next := by omega
          have hb2 : H.next ≠ b := by omega
          have hb3 : b ≠ H2.next + 1 := by omega
          have hl1 : (ws.length + 1) * 40 ≤ 140737488355328 := by omega
          have hl2 : ws.length ≤ 4611686018427387903 := by omega
          have hb4 : H2.next ≠ b := Ne.symm hb1
          have hb5 : H2.next ≠ H2.next + 1 + 1 := by omega
          have htk : List.take (ws.length * 4) (flatW ws) = flatW ws := by rw [List.take_of_length_le]; simp
          simp [h0, h3, h4, h5, hf, hne, hne2, hne3, wdCells, hw1, hn2, hn3, hb, hb1, hb2, hb3, hb4, hb5, hgrow, hl1, hl2, htk]
          refine does_use (between_does (t.drop n2) (by simp; omega) _) ?_
          rintro _ _ ⟨⟨k, rfl, hk, hk2⟩, rfl⟩
          simp only [List.length_drop] at hk
          have hw2 : IntKind.i64.wrap ((n2 : Int) + k) = ((n2 + k : Nat) : Int) := by rw [IntWalk.i64_in _ (by omega)]; omega
          simp [h0, h3, h4, h5, hf, hne, hne2, hne3, hw2]
          refine ⟨t.length - (n2 + k), by omega, ws ++ [(n, w)], t.drop n2, hcut2, n2 + k, by omega, by rw [← List.drop_drop]; exact hk2, rfl, by simp; omega, by omega, .inr ⟨H2.next + 1 + 1, by simp, by omega, by simp [flatW_append, flatW, wdCells]⟩, hb2, fun j x hj => ?_⟩
          obtain ⟨k1, k2, k3, k4, k5⟩ := hkeep2 j x hj
          have := old j x hj
          have k6 : j ≠ b := by omega
          simp [k1, k3, k4, k5, k6]

theorem flatW_lt (n : Nat) : ∀ l : List (Nat × Wd), AV.allLt n (flatW l) = true
  | [] => rfl
  | (i, w) :: l => by simp [flatW, wdCells, AV.allLt, AV.idLt, flatW_lt n l]
theorem allLt_app (n : Nat) (a b : List AV) : AV.allLt n (a ++ b) = (AV.allLt n a && AV.allLt n b) := AV.allLt_append a b
theorem frzs_flatW (i : Nat) (cs : List AV) : ∀ l : List (Nat × Wd), AV.frzs i cs (flatW l) = flatW l
  | [] => rfl
  | (j, w) :: l => by simp [flatW, wdCells, AV.frzs, AV.frz, frzs_flatW i cs l]

/-- Cut, its answer frozen. -/
theorem cut_does (t : Bs) (hG : HasErr G) (H : AHeap) (hbig : t.length < 9223372036854775808) : Does Tryz.prog G 99 [.str t] H fun r H' => r = cutAns t ∧ H' = H := by
  by_cases hL : 16384 < t.length
  · refine Does.forgot (cut_live t hG H hbig) ?_
    rintro hw ha r H1 ⟨hk, hr⟩
    rw [if_pos hL] at hr
    subst hr
    exact ⟨hk, rfl, by simp [cutAns, hL], rfl⟩
  · cases hc : cutS t.length t with
    | error e =>
      refine Does.forgot (cut_live t hG H hbig) ?_
      rintro hw ha r H1 ⟨hk, hr⟩
      rw [if_neg hL, hc] at hr
      simp only at hr
      subst hr
      exact ⟨hk, rfl, by simp [cutAns, hL, hc], rfl⟩
    | ok l =>
      refine Does.frozen (cut_live t hG H hbig) ?_
      rintro hw ha r H1 ⟨hk, hr⟩
      rw [if_neg hL, hc] at hr
      obtain ⟨b, hb, rfl, hg⟩ := hr
      refine ⟨b, _, hb, hg, hk, ?_, ?_, rfl⟩
      · simp [AV.frz, AV.frzs, AV.idLt, AV.allLt]
        rw [List.take_of_length_le (by simp; omega)]
        simp [allLt_app, flatW_lt, AV.allLt, AV.idLt]
      · simp [AV.frz, AV.frzs, cutAns, hL, hc]
        rw [List.take_of_length_le (by simp; omega)]
end Go.Proofs.YtajcehcdmbfhaaaGreatDoor

/-
  The library's error value is there; strings as arguments.
-/



namespace Go.Proofs.YtajcehcdmbfhaaaGreatDoor
open Go Go.Abs Go.Lex

def isErrCell : Option AV → Bool
  | some (.vptr [.iface _ _]) => true
  | _ => false
theorem errCell : isErrCell (Gof tab 7) = true := by kernel_rfl
theorem hasErr : HasErr (Gof tab) := by
  have h := errCell
  unfold isErrCell at h
  split at h
  · rename_i t v he; exact ⟨t, v, he⟩
  · simp at h

set_option maxRecDepth 100000 in
theorem shp_str' {n : Nat} {a : AV} (h : Shp Tryz.prog (n + 1) 9 [a]) : ∃ s, a = .str s ∧ s.length ≤ maxLen := by
  simp only [Shp, Tryz.underlying9] at h
  obtain ⟨s, h, hl⟩ := h
  simp only [List.cons.injEq, and_true] at h
  exact ⟨s, h, hl⟩
set_option maxRecDepth 100000 in
theorem shp_str {a : AV} (h : Shp Tryz.prog 8 9 [a]) : ∃ s, a = .str s ∧ s.length ≤ maxLen := shp_str' (n := 7) h
end Go.Proofs.YtajcehcdmbfhaaaGreatDoor

/-
  lex.Cut in the evaluator.
-/



namespace Go.Proofs.YtajcehcdmbfhaaaGreatDoor
open Go Go.Abs Go.Lex

theorem flatW_cellsW (l : List (Nat × Wd)) : flatW l = cellsW l := by
  induction l with
  | nil => rfl
  | cons x l ih =>
    obtain ⟨i, w⟩ := x
    simp only [flatW, cellsW, ih, wdCells]
theorem cutAns_eq (t : Bs) : cutAns t = cutA t := by
  unfold cutAns cutA
  split
  · rfl
  · cases cutS t.length t with
    | ok l => simp only [flatW_cellsW]
    | error e => rfl
theorem cutOv_good (args : List AV) (H : FH) (k : AV → FH → Bool) (h : cutOv args H k = true) :
    ∃ v H', Does Tryz.prog (Gof tab) 99 args H.abs (fun r h => r = v ∧ h = FH.abs H') ∧ H.next ≤ H'.next ∧ k v H' = true := by
  obtain ⟨s, rfl, hl, hk⟩ := cutOv_inv h
  exact ⟨_, H, (cut_does s hasErr H.abs (by omega)).mono fun r h hr => ⟨hr.1.trans (cutAns_eq s), hr.2⟩, Nat.le_refl _, hk⟩
noncomputable def knownC : Ov := ovAdd 99 cutOv known
theorem knownC_good : OvGoodK Tryz.prog (Gof tab) knownC := ovAdd_good cutOv_good (known_good _)
end Go.Proofs.YtajcehcdmbfhaaaGreatDoor

/-
  What is known of some calls, where the program has no builder of texts: lex.Cut alone.
-/


namespace Go.Proofs.YtajcehcdmbfhaaaGreatDoor
open Go Go.Abs Go.RowKit

noncomputable def knownW : Ov := knownC
theorem knownW_good : OvGoodK Tryz.prog (Gof tab) knownW := knownC_good
end Go.Proofs.YtajcehcdmbfhaaaGreatDoor

/-
  What is known of some calls, where syn.Parse is evaluated itself.
-/

namespace Go.Proofs.YtajcehcdmbfhaaaGreatDoor
open Go Go.Abs Go.RowKit

noncomputable def knownP : Ov := knownW
theorem knownP_good : OvGoodK Tryz.prog (Gof tab) knownP := knownW_good
end Go.Proofs.YtajcehcdmbfhaaaGreatDoor

/-
  What the evaluator wants of the program and of what it lists.
-/


namespace Go.Proofs.YtajcehcdmbfhaaaGreatDoor
open Go Go.Abs Go.Lex
set_option maxRecDepth 100000

theorem gof_low5 : ∀ (T : List (Nat × List AV)), (T.all fun p => (AV.vptr p.2).idLt 0) = true → ∀ g a, Gof T g = some a → a.idLt 0 = true
  | [], _, g, a, ha => by simp [Gof] at ha
  | (h, l) :: r, hT, g, a, ha => by
    simp only [List.all_cons, Bool.and_eq_true] at hT
    simp only [Gof] at ha
    split at ha
    · cases ha; exact hT.1
    · exact gof_low5 r hT.2 g a ha
theorem mixed5 : Tryz.prog.follows .mixedOrders = true := by kernel_rfl
theorem plain5 : plainFn Tryz.prog = true := by kernel_rfl
theorem gof_tab5 : ∀ g a, Gof tab g = some a → a.idLt 0 = true := gof_low5 tab (by kernel_rfl)
end Go.Proofs.YtajcehcdmbfhaaaGreatDoor

/-
  The script's texts, each cut into a program and its lines.
-/



namespace Go.Proofs.YtajcehcdmbfhaaaGreatDoor
open Go Go.Abs Go.RowKit
set_option maxRecDepth 100000

noncomputable def knownS0 : Ov := ovAdd 180 cntOv knownP
theorem knownS0_good : OvGoodK Tryz.prog (Gof tab) knownS0 := ovAdd_good (cntOv_good isCnt) knownP_good

def skT0 : List UInt8 := [110,111,100,101,32,102,40,120,58,32,105,110,116,41,32,114,101,116,117,114,110,115,32,40,121,58,32,105,110,116,41,59,32,108,101,116,32,121,32,61,32,120,32,43,32,49,59,32,116,101,108,10,45,45,45,10,109,101,97,110,32,53,32,54,10]
def skV0 : AV := .vsl [.str [109,101,97,110,32,53,32,54]] 1
def skR0 : AV := .tuple [.str [110,111,100,101,32,102,40,120,58,32,105,110,116,41,32,114,101,116,117,114,110,115,32,40,121,58,32,105,110,116,41,59,32,108,101,116,32,121,32,61,32,120,32,43,32,49,59,32,116,101,108,10], skV0]
theorem skTrim0 : fcall knownS0 Tryz.prog (Gof tab) 100000 50 18 [.str [109,101,97,110,32,53,32,54,10], .str [10]] FH.empty (litK (.str [109,101,97,110,32,53,32,54])) = true := by kernel_rfl
theorem skCut0 : fcall knownS0 Tryz.prog (Gof tab) 100000 50 17 [.str [109,101,97,110,32,53,32,54], .str [10]] FH.empty (litK skV0) = true := by kernel_rfl
theorem skS0 (H : AHeap) : Does Tryz.prog (Gof tab) 8 [.str skT0] H fun r h => r = skR0 ∧ h = H := by
  have e : splitA skT0 skV0 = skR0 := by kernel_rfl
  rw [← e]
  refine split_does (Nat.le_of_ble_eq_true (by kernel_rfl)) (fun n => rfl) rfl rfl ?_ H
  intro at_ hf hr
  have h2 : findB 0 (rowsB 10 skT0) = some 52 := by kernel_rfl
  rw [h2] at hf
  cases hf
  have h3 : restB skT0 52 = [109,101,97,110,32,53,32,54,10] := by kernel_rfl
  rw [h3]
  exact ⟨[109,101,97,110,32,53,32,54], fun H => lit_does mixed5 plain5 knownS0_good gof_tab5 rfl rfl skTrim0 H, fun H => lit_does mixed5 plain5 knownS0_good gof_tab5 rfl (by kernel_rfl) skCut0 H⟩

def skT1 : List UInt8 := [110,111,100,101,32,102,40,120,58,32,105,110,116,41,32,114,101,116,117,114,110,115,32,40,115,58,32,105,110,116,41,59,32,108,101,116,32,115,32,61,32,120,32,43,32,40,48,32,102,98,121,32,115,41,59,32,116,101,108,10,45,45,45,10,119,104,97,116]
def skV1 : AV := .vsl [.str [119,104,97,116]] 1
def skR1 : AV := .tuple [.str [110,111,100,101,32,102,40,120,58,32,105,110,116,41,32,114,101,116,117,114,110,115,32,40,115,58,32,105,110,116,41,59,32,108,101,116,32,115,32,61,32,120,32,43,32,40,48,32,102,98,121,32,115,41,59,32,116,101,108,10], skV1]
theorem skTrim1 : fcall knownS0 Tryz.prog (Gof tab) 100000 50 18 [.str [119,104,97,116], .str [10]] FH.empty (litK (.str [119,104,97,116])) = true := by kernel_rfl
theorem skCut1 : fcall knownS0 Tryz.prog (Gof tab) 100000 50 17 [.str [119,104,97,116], .str [10]] FH.empty (litK skV1) = true := by kernel_rfl
theorem skS1 (H : AHeap) : Does Tryz.prog (Gof tab) 8 [.str skT1] H fun r h => r = skR1 ∧ h = H := by
  have e : splitA skT1 skV1 = skR1 := by kernel_rfl
  rw [← e]
  refine split_does (Nat.le_of_ble_eq_true (by kernel_rfl)) (fun n => rfl) rfl rfl ?_ H
  intro at_ hf hr
  have h2 : findB 0 (rowsB 10 skT1) = some 60 := by kernel_rfl
  rw [h2] at hf
  cases hf
  have h3 : restB skT1 60 = [119,104,97,116] := by kernel_rfl
  rw [h3]
  exact ⟨[119,104,97,116], fun H => lit_does mixed5 plain5 knownS0_good gof_tab5 rfl rfl skTrim1 H, fun H => lit_does mixed5 plain5 knownS0_good gof_tab5 rfl (by kernel_rfl) skCut1 H⟩

def skT2 : List UInt8 := [110,111,100,101,32,102,40,41,32,114,101,116,117,114,110,115,32,40,121,58,32,105,110,116,41,59,32,108,101,116,32,121,32,61,32,121,59,32,116,101,108,10,45,45,45,10,110,101,116]
def skV2 : AV := .vsl [.str [110,101,116]] 1
def skR2 : AV := .tuple [.str [110,111,100,101,32,102,40,41,32,114,101,116,117,114,110,115,32,40,121,58,32,105,110,116,41,59,32,108,101,116,32,121,32,61,32,121,59,32,116,101,108,10], skV2]
theorem skTrim2 : fcall knownS0 Tryz.prog (Gof tab) 100000 50 18 [.str [110,101,116], .str [10]] FH.empty (litK (.str [110,101,116])) = true := by kernel_rfl
theorem skCut2 : fcall knownS0 Tryz.prog (Gof tab) 100000 50 17 [.str [110,101,116], .str [10]] FH.empty (litK skV2) = true := by kernel_rfl
theorem skS2 (H : AHeap) : Does Tryz.prog (Gof tab) 8 [.str skT2] H fun r h => r = skR2 ∧ h = H := by
  have e : splitA skT2 skV2 = skR2 := by kernel_rfl
  rw [← e]
  refine split_does (Nat.le_of_ble_eq_true (by kernel_rfl)) (fun n => rfl) rfl rfl ?_ H
  intro at_ hf hr
  have h2 : findB 0 (rowsB 10 skT2) = some 42 := by kernel_rfl
  rw [h2] at hf
  cases hf
  have h3 : restB skT2 42 = [110,101,116] := by kernel_rfl
  rw [h3]
  exact ⟨[110,101,116], fun H => lit_does mixed5 plain5 knownS0_good gof_tab5 rfl rfl skTrim2 H, fun H => lit_does mixed5 plain5 knownS0_good gof_tab5 rfl (by kernel_rfl) skCut2 H⟩

def skT3 : List UInt8 := [110,111,100,101,32,102,40,120,58,32,105,110,116,41,32,114,101,116,117,114,110,115,32,40,115,58,32,105,110,116,41,59,32,108,101,116,32,115,32,61,32,120,32,43,32,40,48,32,102,98,121,32,115,41,59,32,116,101,108,10,45,45,45,10,102,108,101,101,116,32,48,10,115,117,98,109,105,116,32,48,32,49,32,53,10,115,117,98,109,105,116,32,48,32,50,32,45,55,10,111,117,116,115,32,48,10,110,101,116,10,115,117,98,109,105,116,32,49,32,51,32,53,10,109,101,97,110,32,49,32,120]
def skV3 : AV := .vsl [.str [102,108,101,101,116,32,48],.str [115,117,98,109,105,116,32,48,32,49,32,53],.str [115,117,98,109,105,116,32,48,32,50,32,45,55],.str [111,117,116,115,32,48],.str [110,101,116],.str [115,117,98,109,105,116,32,49,32,51,32,53],.str [109,101,97,110,32,49,32,120]] 7
def skR3 : AV := .tuple [.str [110,111,100,101,32,102,40,120,58,32,105,110,116,41,32,114,101,116,117,114,110,115,32,40,115,58,32,105,110,116,41,59,32,108,101,116,32,115,32,61,32,120,32,43,32,40,48,32,102,98,121,32,115,41,59,32,116,101,108,10], skV3]
theorem skTrim3 : fcall knownS0 Tryz.prog (Gof tab) 100000 50 18 [.str [102,108,101,101,116,32,48,10,115,117,98,109,105,116,32,48,32,49,32,53,10,115,117,98,109,105,116,32,48,32,50,32,45,55,10,111,117,116,115,32,48,10,110,101,116,10,115,117,98,109,105,116,32,49,32,51,32,53,10,109,101,97,110,32,49,32,120], .str [10]] FH.empty (litK (.str [102,108,101,101,116,32,48,10,115,117,98,109,105,116,32,48,32,49,32,53,10,115,117,98,109,105,116,32,48,32,50,32,45,55,10,111,117,116,115,32,48,10,110,101,116,10,115,117,98,109,105,116,32,49,32,51,32,53,10,109,101,97,110,32,49,32,120])) = true := by kernel_rfl
theorem skCut3 : fcall knownS0 Tryz.prog (Gof tab) 100000 50 17 [.str [102,108,101,101,116,32,48,10,115,117,98,109,105,116,32,48,32,49,32,53,10,115,117,98,109,105,116,32,48,32,50,32,45,55,10,111,117,116,115,32,48,10,110,101,116,10,115,117,98,109,105,116,32,49,32,51,32,53,10,109,101,97,110,32,49,32,120], .str [10]] FH.empty (litK skV3) = true := by kernel_rfl
theorem skS3 (H : AHeap) : Does Tryz.prog (Gof tab) 8 [.str skT3] H fun r h => r = skR3 ∧ h = H := by
  have e : splitA skT3 skV3 = skR3 := by kernel_rfl
  rw [← e]
  refine split_does (Nat.le_of_ble_eq_true (by kernel_rfl)) (fun n => rfl) rfl rfl ?_ H
  intro at_ hf hr
  have h2 : findB 0 (rowsB 10 skT3) = some 60 := by kernel_rfl
  rw [h2] at hf
  cases hf
  have h3 : restB skT3 60 = [102,108,101,101,116,32,48,10,115,117,98,109,105,116,32,48,32,49,32,53,10,115,117,98,109,105,116,32,48,32,50,32,45,55,10,111,117,116,115,32,48,10,110,101,116,10,115,117,98,109,105,116,32,49,32,51,32,53,10,109,101,97,110,32,49,32,120] := by kernel_rfl
  rw [h3]
  exact ⟨[102,108,101,101,116,32,48,10,115,117,98,109,105,116,32,48,32,49,32,53,10,115,117,98,109,105,116,32,48,32,50,32,45,55,10,111,117,116,115,32,48,10,110,101,116,10,115,117,98,109,105,116,32,49,32,51,32,53,10,109,101,97,110,32,49,32,120], fun H => lit_does mixed5 plain5 knownS0_good gof_tab5 rfl rfl skTrim3 H, fun H => lit_does mixed5 plain5 knownS0_good gof_tab5 rfl (by kernel_rfl) skCut3 H⟩

def skT4 : List UInt8 := [110,111,100,101,32,102,40,120,58,32,105,110,116,41,32,114,101,116,117,114,110,115,32,40,115,58,32,105,110,116,41,59,32,108,101,116,32,115,32,61,32,120,32,43,32,40,48,32,102,98,121,32,115,41,59,32,116,101,108,10,45,45,45,10,102,108,101,101,116,32,48,10,115,117,98,109,105,116,32,48,32,49,32,53,10,115,117,98,109,105,116,32,48,32,50,32,45,55,10,111,117,116,115,32,48,10,110,101,116,10,115,117,98,109,105,116,32,49,32,51,32,53,10,102,108,101,101,116,32,57,10,10]
def skV4 : AV := .vsl [.str [102,108,101,101,116,32,48],.str [115,117,98,109,105,116,32,48,32,49,32,53],.str [115,117,98,109,105,116,32,48,32,50,32,45,55],.str [111,117,116,115,32,48],.str [110,101,116],.str [115,117,98,109,105,116,32,49,32,51,32,53],.str [102,108,101,101,116,32,57],.str []] 8
def skR4 : AV := .tuple [.str [110,111,100,101,32,102,40,120,58,32,105,110,116,41,32,114,101,116,117,114,110,115,32,40,115,58,32,105,110,116,41,59,32,108,101,116,32,115,32,61,32,120,32,43,32,40,48,32,102,98,121,32,115,41,59,32,116,101,108,10], skV4]
theorem skTrim4 : fcall knownS0 Tryz.prog (Gof tab) 100000 50 18 [.str [102,108,101,101,116,32,48,10,115,117,98,109,105,116,32,48,32,49,32,53,10,115,117,98,109,105,116,32,48,32,50,32,45,55,10,111,117,116,115,32,48,10,110,101,116,10,115,117,98,109,105,116,32,49,32,51,32,53,10,102,108,101,101,116,32,57,10,10], .str [10]] FH.empty (litK (.str [102,108,101,101,116,32,48,10,115,117,98,109,105,116,32,48,32,49,32,53,10,115,117,98,109,105,116,32,48,32,50,32,45,55,10,111,117,116,115,32,48,10,110,101,116,10,115,117,98,109,105,116,32,49,32,51,32,53,10,102,108,101,101,116,32,57,10])) = true := by kernel_rfl
theorem skCut4 : fcall knownS0 Tryz.prog (Gof tab) 100000 50 17 [.str [102,108,101,101,116,32,48,10,115,117,98,109,105,116,32,48,32,49,32,53,10,115,117,98,109,105,116,32,48,32,50,32,45,55,10,111,117,116,115,32,48,10,110,101,116,10,115,117,98,109,105,116,32,49,32,51,32,53,10,102,108,101,101,116,32,57,10], .str [10]] FH.empty (litK skV4) = true := by kernel_rfl
theorem skS4 (H : AHeap) : Does Tryz.prog (Gof tab) 8 [.str skT4] H fun r h => r = skR4 ∧ h = H := by
  have e : splitA skT4 skV4 = skR4 := by kernel_rfl
  rw [← e]
  refine split_does (Nat.le_of_ble_eq_true (by kernel_rfl)) (fun n => rfl) rfl rfl ?_ H
  intro at_ hf hr
  have h2 : findB 0 (rowsB 10 skT4) = some 60 := by kernel_rfl
  rw [h2] at hf
  cases hf
  have h3 : restB skT4 60 = [102,108,101,101,116,32,48,10,115,117,98,109,105,116,32,48,32,49,32,53,10,115,117,98,109,105,116,32,48,32,50,32,45,55,10,111,117,116,115,32,48,10,110,101,116,10,115,117,98,109,105,116,32,49,32,51,32,53,10,102,108,101,101,116,32,57,10,10] := by kernel_rfl
  rw [h3]
  exact ⟨[102,108,101,101,116,32,48,10,115,117,98,109,105,116,32,48,32,49,32,53,10,115,117,98,109,105,116,32,48,32,50,32,45,55,10,111,117,116,115,32,48,10,110,101,116,10,115,117,98,109,105,116,32,49,32,51,32,53,10,102,108,101,101,116,32,57,10], fun H => lit_does mixed5 plain5 knownS0_good gof_tab5 rfl rfl skTrim4 H, fun H => lit_does mixed5 plain5 knownS0_good gof_tab5 rfl (by kernel_rfl) skCut4 H⟩

noncomputable def knownS1 : Ov := ovAdd 8 (litOv [([.str skT0], skR0), ([.str skT1], skR1), ([.str skT2], skR2), ([.str skT3], skR3), ([.str skT4], skR4)]) knownS0
theorem knownS1_good : OvGoodK Tryz.prog (Gof tab) knownS1 := ovAdd_good (litOv_good fun e he H => by
  simp only [List.mem_cons, List.not_mem_nil, or_false] at he
  rcases he with rfl | rfl | rfl | rfl | rfl
  · exact skS0 H
  · exact skS1 H
  · exact skS2 H
  · exact skS3 H
  · exact skS4 H) knownS0_good
end Go.Proofs.YtajcehcdmbfhaaaGreatDoor

/-
  sync.Once's slow road in this program, its lock free: what it does, by what the function that it is handed does.
-/


namespace Go.Proofs.YtajcehcdmbfhaaaGreatDoor
open Go Go.Abs
set_option maxRecDepth 1000000
set_option maxHeartbeats 8000000

theorem fl_slow_run (b o : Nat) (fn : Fn) (first cap : Array Value) (w : World) (K : World → Prop) (h0 : w.cell? ⟨b, o, none⟩ = some (.int .u32 0)) (h1 : w.cell? ⟨b, o + 1, none⟩ = some (.int .i32 0)) (f0 : w.frozen? ⟨b, o, none⟩ = false) (f1 : w.frozen? ⟨b, o + 1, none⟩ = false)
    (hg : ∃ g, fn = .func g ∧ OpCalls Tryz.prog g (first ++ cap) (w.setCell ⟨b, o + 1, none⟩ (.int .i32 1)) fun _ w2 => K w2)
    (hK : ∀ w2, K w2 → w2.cell? ⟨b, o, none⟩ = some (.int .u32 0) ∧ w2.cell? ⟨b, o + 1, none⟩ = some (.int .i32 1) ∧ w2.frozen? ⟨b, o, none⟩ = false ∧ w2.frozen? ⟨b, o + 1, none⟩ = false) :
    Calls Tryz.prog 69 #[.pointer (some ⟨b, o, none⟩), .func fn first cap] w fun e w' => e = .returned (.tuple #[]) ∧ ∃ w2, K w2 ∧ w' = (w2.drew.setCell ⟨b, o, none⟩ (.int .u32 1)).setCell ⟨b, o + 1, none⟩ (.int .i32 0) := by
  obtain ⟨g, rfl, hg⟩ := hg
  have hl := run_call_load (P := Tryz.prog) Tryz.func154 (by kernel_rfl) (by kernel_rfl) (by kernel_rfl) .u32 (by kernel_rfl) (w := w.setCell ⟨b, o + 1, none⟩ (.int .i32 1)) (a := ⟨b, o, none⟩) (x := 0) ((World.cell?_setCell_other _ ⟨b, o + 1, none⟩ ⟨b, o, none⟩ _ (by simp)).trans h0)
  have hnot : ∀ (x : Bool) (w : World), (Op.unary .not (.bool x)).run Tryz.prog w = .ok (.bool (!x)) w := fun _ _ => rfl
  go_enter_defers Tryz.func69, Tryz.ntmps69
  go_wp2_with (go_at_call 155; refine (fl_lock ⟨b, o + 1, none⟩ _ (by go_simp) (by go_simp) rfl).mono ?_; rintro e w' ⟨rfl, rfl⟩)
  go_wp2
  rename_i KK hKK
  have key : ∀ v w2, K w2 → KK { tmps := #[Value.pointer (some { block := b, off := o }), Value.func (Fn.func g) first cap, undef, undef, Value.pointer (some { block := b, off := o }), Value.pointer (some { block := b, off := o }), Value.pointer (some { block := b, off := o + 1 }), Value.tuple #[], Value.pointer (some { block := b, off := o }), Value.pointer (some { block := b, off := o }), Value.pointer (some { block := b, off := o + 1 }), Value.pointer (some { block := b, off := o }), Value.pointer (some { block := b, off := o }), Value.pointer (some { block := b, off := o }), Value.bool false, Value.bool true, Value.pointer (some { block := b, off := o }), Value.pointer (some { block := b, off := o }), Value.pointer (some { block := b, off := o }), Value.func (Fn.func g) first cap, v], defers := [{ target := Target.fn (Fn.func 157) #[], args := #[Value.pointer (some { block := b, off := o }), Value.bool true] }, { target := Target.fn (Fn.func 156) #[], args := #[Value.pointer (some { block := b, off := o + 1 })] }] } w2 := by
    intro v w2 h2
    obtain ⟨a1, a2, a3, a4⟩ := hK w2 h2
    refine hKK _ _ ?_
    clear hKK
    go_wp2
    refine leaves_cons (f := 157) (args := #[.pointer (some ⟨b, o, none⟩), .bool true]) (by simp) (by simp [go_sem]) ?_
    refine (fl_stored ⟨b, o, none⟩ (.int .u32 0) .returning _ a1 a3).mono ?_
    rintro e u' w'' ⟨rfl, rfl, rfl⟩
    refine leaves_cons (f := 156) (args := #[.pointer (some ⟨b, o + 1, none⟩)]) (by simp [settle]) (by simp [go_sem]) ?_
    refine (fl_unlocked ⟨b, o + 1, none⟩ _ _ ?_ (by simp [a4]) rfl).mono ?_
    · refine (World.cell?_setCell_other _ ⟨b, o, none⟩ ⟨b, o + 1, none⟩ _ (by simp)).trans ?_
      rw [World.cell?_drew]
      exact a2
    rintro e u' w'' ⟨rfl, rfl, rfl⟩
    simp [Leaves, settle, results, Tryz.results69]
    exact ⟨_, h2, rfl⟩
  rcases hg with ⟨h1, h2⟩ | ⟨v, w', h1, h2⟩
  · rw [h1, Oper.upon_enter]
    refine h2.mono ?_
    rintro e w' ⟨v, rfl, h3⟩
    exact key v w' h3
  · rw [h1, Oper.upon_value]
    exact key v w' h2
theorem fl_slow : IsSlow Tryz.prog 69 := ⟨Tryz.call69, fl_slow_run⟩
theorem fl_load32 : IsLoad Tryz.prog 154 .u32 := ⟨fun a x w h => run_call_load (P := Tryz.prog) Tryz.func154 (by kernel_rfl) (by kernel_rfl) (by kernel_rfl) .u32 (by kernel_rfl) h⟩
theorem fl_add64 : IsAdd Tryz.prog 160 .i64 := ⟨fun a x y w h hz => run_call_add (P := Tryz.prog) Tryz.func160 (by kernel_rfl) (by kernel_rfl) (by kernel_rfl) .i64 (by kernel_rfl) h hz (by simp [go_sem])⟩
end Go.Proofs.YtajcehcdmbfhaaaGreatDoor
