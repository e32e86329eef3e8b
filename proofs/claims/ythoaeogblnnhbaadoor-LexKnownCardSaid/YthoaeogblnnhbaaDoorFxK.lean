/-
  The place of a byte in a string, as the model reckons it by itself; and closed calls beside known variables.
-/
import Derived.Test.YthoaeogblnnhbaaDoorFxI
import Derived.Lib.Bytealg
import Derived.Laws.Externs
namespace Go.Abs
open Go Go.RowKit

/-- The place of the first byte with that number, counted from i. -/
noncomputable def idxK (k : Int → Bool) (s : List UInt8) : Nat → Nat → Bool :=
  List.rec (motive := fun _ => Nat → Nat → Bool) (fun _ _ => k (Int.negSucc 0)) (fun b _ ih c i => ifK (Nat.beq b.toNat c) (k (Int.ofNat i)) (natK (Nat.succ i) fun i => ih c i)) s

theorem indexByte_cases (b : UInt8) (l : List UInt8) (c : UInt8) : Go.Lib.indexByte (b :: l) c = if b = c then 0 else if Go.Lib.indexByte l c = -1 then -1 else Go.Lib.indexByte l c + 1 := by
  simp [Go.Lib.indexByte]

theorem idxK_inv {k : Int → Bool} {c : UInt8} : ∀ (s : List UInt8) (i : Nat), idxK k s c.toNat i = true → k (if Go.Lib.indexByte s c = -1 then -1 else Go.Lib.indexByte s c + i) = true
  | [], i, h => h
  | b :: l, i, h => by
    have h : ifK (Nat.beq b.toNat c.toNat) (k (Int.ofNat i)) (natK (Nat.succ i) fun i => idxK k l c.toNat i) = true := h
    rw [indexByte_cases]
    by_cases e : b = c
    · subst e
      have e1 : Nat.beq b.toNat b.toNat = true := Nat.beq_refl _
      rw [e1, ifK_true] at h
      simpa using h
    · have e1 : Nat.beq b.toNat c.toNat = false := by
        cases h' : Nat.beq b.toNat c.toNat with
        | false => rfl
        | true => exact absurd (UInt8.toNat_inj.1 (Nat.eq_of_beq_eq_true h')) e
      rw [e1, ifK_false, natK_eq] at h
      have := idxK_inv l (i + 1) h
      rw [if_neg e]
      have hge := Go.Lib.indexByte_ge l c
      by_cases e2 : Go.Lib.indexByte l c = -1
      · rw [if_pos e2] at this ⊢; simpa using this
      · rw [if_neg e2] at this ⊢
        rw [if_neg (by omega)]
        have : Go.Lib.indexByte l c + 1 + (i : Int) = Go.Lib.indexByte l c + ((i + 1 : Nat) : Int) := by omega
        rw [this]; assumption

/-- 'internal/bytealg.IndexByteString' and its like: the model's own. -/
noncomputable def idxOv (args : List AV) (H : FH) (k : AV → FH → Bool) : Bool :=
  nthK args 0 (fun a => nthK args 1 (fun b => ifK (Nat.beq (lenN args) 2)
    (a.onStr false fun s => b.onInt false fun kd n => ifK (kindB kd .u8) (natK n.toNat fun c => ifK (Nat.blt c 256) (idxK (fun r => k (.int .i64 r) H) s c 0) false) false) false) false) false

structure IsIdx (P : Program) (f : FuncId) : Prop where
  ex : ∃ fn, P.funcs[f]? = some fn ∧ (fn.name == "runtime.NumGoroutine") = false ∧ fn.body.isNone = true ∧ Extern.findNext fn = none ∧ Extern.find fn = some Extern.BytealgIndexByte.indexByte

theorem nthK_inv {α : Type} {l : List α} {n : Nat} {k : α → Bool} (h : nthK l n k false = true) : ∃ a, l[n]? = some a ∧ k a = true := by
  rw [nthK_eq] at h
  split at h
  · rename_i a ha; exact ⟨a, ha, h⟩
  · simp at h

theorem idx_does {P : Program} {G : Nat → Option AV} {f : FuncId} (hf : IsIdx P f) (s : List UInt8) (c : Int) (H : AHeap) :
    Does P G f [.str s, .int .u8 c] H fun r h => r = .int .i64 (Go.Lib.indexByte s c.toNat.toUInt8) ∧ h = H := by
  obtain ⟨fn, h1, h2, h3, h4, h5⟩ := hf.ex
  refine ⟨fun E w vs hR hG hv => ?_⟩
  cases hv with | cons ha hv =>
  cases hv with | cons hb hv =>
  cases hv
  cases ha
  cases hb
  refine .inr ⟨.int .i64 (Go.Lib.indexByte s c.toNat.toUInt8), w, ?_, _, H, E, ⟨rfl, rfl⟩, Ext.refl E, .int _ _, hR⟩
  rw [run_callFunc_extern h1 h2 h3 h4 h5]
  have := Go.Lib.run_indexByteString (P := P) ⟨s.toArray⟩ c w
  simp only at this
  rw [this]
  rfl

theorem idxOv_good {P : Program} {G : Nat → Option AV} {f : FuncId} (hf : IsIdx P f) (args : List AV) (H : FH) (k : AV → FH → Bool) (h : idxOv args H k = true) :
    ∃ v H', Does P G f args H.abs (fun r h => r = v ∧ h = FH.abs H') ∧ H.next ≤ H'.next ∧ k v H' = true := by
  obtain ⟨a, ha, h⟩ := nthK_inv h
  obtain ⟨b, hb, h⟩ := nthK_inv h
  obtain ⟨hl, h⟩ := ifK_inv h
  have hl := Nat.eq_of_beq_eq_true hl
  rw [lenN_eq] at hl
  obtain rfl : args = [a, b] := by
    match args, hl with
    | [x, y], _ => simp at ha hb; subst ha; subst hb; rfl
  rcases AV.onStr_inv h with ⟨s, rfl, h⟩ | ⟨h, _⟩
  case inr => simp at h
  rcases AV.onInt_inv (show AV.onInt false _ b = true from h) with ⟨kd, n, rfl, h⟩ | ⟨h, _⟩
  case inr => simp at h
  have h : ifK (kindB kd .u8) (natK n.toNat fun c => ifK (Nat.blt c 256) (idxK (fun r => k (.int .i64 r) H) s c 0) false) false = true := h
  obtain ⟨hk, hx⟩ := ifK_inv h
  rw [natK_eq] at hx
  obtain ⟨hlt, hx⟩ := ifK_inv hx
  have hlt : n.toNat < 256 := Nat.le_of_ble_eq_true hlt
  obtain rfl : kd = .u8 := kindB_eq.1 hk
  have e : (n.toNat.toUInt8).toNat = n.toNat := by simp [Nat.toUInt8]; omega
  rw [← e] at hx
  have := idxK_inv s 0 hx
  refine ⟨_, H, idx_does hf s n H.abs, Nat.le_refl _, ?_⟩
  have hge := Go.Lib.indexByte_ge s n.toNat.toUInt8
  split at this
  · rename_i e; rw [e]; exact this
  · simpa using this

/-- Two of them. -/
noncomputable def idxOvs (a b : FuncId) : Ov := fun f => ifK (Nat.beq f a) (some idxOv) (ifK (Nat.beq f b) (some idxOv) none)

theorem idxOvs_good {P : Program} {G : Nat → Option AV} {a b : FuncId} (ha : IsIdx P a) (hb : IsIdx P b) : OvGoodK P G (idxOvs a b) := by
  intro f g h args H k hg
  unfold idxOvs at h
  cases e : Nat.beq f a with
  | true =>
    obtain rfl := Nat.eq_of_beq_eq_true e
    rw [e, ifK_true] at h
    simp only [Option.some.injEq] at h; subst h
    exact idxOv_good ha args H k hg
  | false =>
    rw [e, ifK_false] at h
    cases e : Nat.beq f b with
    | true =>
      obtain rfl := Nat.eq_of_beq_eq_true e
      rw [e, ifK_true] at h
      simp only [Option.some.injEq] at h; subst h
      exact idxOv_good hb args H k hg
    | false => rw [e, ifK_false] at h; simp at h

/-- A closed call that evaluates to true, beside known variables. -/
theorem closed_yesG {P : Program} {G : Nat → Option AV} {ov : Ov} {f : FuncId} {fuel n : Nat} (he : Enters P f) (hm : P.follows .mixedOrders = true) (hp : plainFn P = true) (hov : OvGoodK P G ov) (h : fcall ov P G fuel n f [] FH.empty yesK = true) (w : World)
    (hG : GRel (Env.start w) G) : Calls P f #[] w fun e w' => e = .returned (.bool true) ∧ Olds w w' := by
  obtain ⟨v, H', hd, _, hk⟩ := fcall_sound hm hp hov n f [] FH.empty yesK h
  rw [FH.abs_empty] at hd
  have hv : v = .bool true := by
    rcases AV.onBool_inv (show v.onBool false (fun b => b) = true from hk) with ⟨b, hb, h⟩ | ⟨h, _⟩
    · rw [hb, h]
    · simp at h
  exact hd.yes he (fun r H h => by rw [h.1, hv]) w hG .nil
end Go.Abs
