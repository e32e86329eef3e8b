/-
  Functions of the library by their contracts: a copy of a string; contracts put together.
-/
import Derived.Test.YthoaeogblnnhbaaDoorFxK
import Derived.Below
namespace Go.Abs
open Go Go.RowKit

theorem Rel.below {E : Env} {H : AHeap} {w w' : World} (h : Rel E H w) (b : Below w.heap.size w w') : Rel E H w' := by
  have hb : ∀ (B : Nat) (o : Obj), w.heap[B]? = some o → w'.heap[B]? = some o := fun B o ho => by
    rw [b.block B (Array.getElem?_eq_some_iff.1 ho).1]; exact ho
  exact ⟨b.os.trans h.os, b.output.trans h.out, fun B o hB => hb _ _ (h.K B o hB), fun B o hB => hb _ _ (h.F B o hB), h.KF, h.dom, fun i x hi => by
    obtain ⟨p, ob, g1, g2, g3, g4, g5⟩ := h.live i x hi
    exact ⟨p, ob, g1, g2, g3, hb _ _ g4, g5⟩, h.inj⟩

/-- A function that hands back a string's like. -/
structure IsCopy (P : Program) (f : FuncId) : Prop where
  enters : Enters P f
  runs : ∀ (s : ByteArray) (w : World), s.size ≤ 281474976710656 → Calls P f #[.string s] w fun e w' => e = .returned (.string s) ∧ Below w.heap.size w w'

theorem copy_does {P : Program} {G : Nat → Option AV} {f : FuncId} (hf : IsCopy P f) (s : List UInt8) (hs : s.length ≤ 281474976710656) (H : AHeap) : Does P G f [.str s] H fun r h => r = .str s ∧ h = H := by
  refine ⟨fun E w vs hR hG hv => ?_⟩
  cases hv with | cons ha hv =>
  cases hv
  cases ha
  refine .inl ⟨hf.enters _ _, (hf.runs ⟨s.toArray⟩ w (by simpa [ByteArray.size] using hs)).mono fun e w' ⟨h1, h2⟩ => ⟨_, h1, .str s, H, E, ⟨rfl, rfl⟩, Ext.refl E, .str s, hR.below h2⟩⟩

noncomputable def copyOv (args : List AV) (H : FH) (k : AV → FH → Bool) : Bool :=
  nthK args 0 (fun a => ifK (Nat.beq (lenN args) 1) (a.onStr false fun s => ifK (Nat.ble (lenN s) 281474976710656) (k (.str s) H) false) false) false

theorem copyOv_good {P : Program} {G : Nat → Option AV} {f : FuncId} (hf : IsCopy P f) (args : List AV) (H : FH) (k : AV → FH → Bool) (h : copyOv args H k = true) :
    ∃ v H', Does P G f args H.abs (fun r h => r = v ∧ h = FH.abs H') ∧ H.next ≤ H'.next ∧ k v H' = true := by
  obtain ⟨a, ha, h⟩ := nthK_inv h
  obtain ⟨hl, h⟩ := ifK_inv h
  have hl := Nat.eq_of_beq_eq_true hl
  rw [lenN_eq] at hl
  obtain rfl : args = [a] := by
    match args, hl with
    | [x], _ => simp at ha; subst ha; rfl
  rcases AV.onStr_inv h with ⟨s, rfl, h⟩ | ⟨h, _⟩
  case inr => simp at h
  have h : ifK (Nat.ble (lenN s) 281474976710656) (k (.str s) H) false = true := h
  obtain ⟨h1, h2⟩ := ifK_inv h
  have h1 : lenN s ≤ 281474976710656 := Nat.le_of_ble_eq_true h1
  rw [lenN_eq] at h1
  exact ⟨_, H, copy_does hf s h1 H.abs, Nat.le_refl _, h2⟩

/-- One contract ahead of others. -/
noncomputable def ovAdd (a : FuncId) (g : List AV → FH → (AV → FH → Bool) → Bool) (o : Ov) : Ov := fun f => ifK (Nat.beq f a) (some g) (o f)

theorem ovAdd_good {P : Program} {G : Nat → Option AV} {a : FuncId} {g : List AV → FH → (AV → FH → Bool) → Bool} {o : Ov}
    (hg : ∀ args H k, g args H k = true → ∃ v H', Does P G a args H.abs (fun r h => r = v ∧ h = FH.abs H') ∧ H.next ≤ H'.next ∧ k v H' = true) (ho : OvGoodK P G o) : OvGoodK P G (ovAdd a g o) := by
  intro f g' h args H k hk
  unfold ovAdd at h
  cases e : Nat.beq f a with
  | true =>
    obtain rfl := Nat.eq_of_beq_eq_true e
    rw [e, ifK_true] at h
    simp only [Option.some.injEq] at h; subst h
    exact hg args H k hk
  | false => rw [e, ifK_false] at h; exact ho f g' h args H k hk
end Go.Abs
