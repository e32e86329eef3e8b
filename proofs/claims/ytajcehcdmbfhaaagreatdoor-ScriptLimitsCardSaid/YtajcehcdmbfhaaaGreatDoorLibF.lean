/-
  Own library of this claim, part 6: texts one behind the other (SkS).
-/
import Derived.Lib.AppendIntMem
import Derived.Test.YtajcehcdmbfhaaaGreatDoorLibD
set_option linter.unusedVariables false
set_option linter.unusedSimpArgs false

/-
  strings.Repeat, strconv.FormatInt: the kit's proved summaries at this program.
-/




namespace Go.Proofs.YtajcehcdmbfhaaaGreatDoor
open Go Go.Abs Go.RowKit Go.Shelf
set_option maxRecDepth 100000

theorem sk_extra : Builder.Extra Tryz.prog Tryz.laysRepeat_ren where
  sizeBuilder := by kernel_rfl
  liesBuilder := by kernel_rfl
  t5 := Tryz.laysRepeat.t5
  a5 := Tryz.laysRepeat.a5
  z5 := Tryz.laysRepeat.z5
  v5 := Tryz.laysRepeat.v5
  infoByte := by kernel_rfl
  cellsByte := by kernel_rfl
  sizeByte := by kernel_rfl
  neB5 := by decide
theorem sk_f105 : Tryz.laysRepeat_ren.f 105 = 45 := by kernel_rfl
theorem sk_f173 : Tryz.laysFormat_ren.f 173 = 170 := by kernel_rfl
theorem repeat_does {G : Nat → Option AV} (s : List UInt8) (c : Nat) (hc : c ≤ 9223372036854775807) (hl : s.length * c ≤ 140737488355328) (H : AHeap) :
    Does Tryz.prog G 45 [.str s, .int .i64 c] H fun r h => r = .str (Lib.repeatL s c) ∧ h = H := by
  refine ⟨fun E w vs hR hG hv => ?_⟩
  cases hv with | cons h1 hv =>
  cases hv with | cons h2 hv =>
  cases hv
  cases h1
  cases h2
  have h := Any.strings_Repeat Tryz.laysRepeat sk_extra ⟨s.toArray⟩ c w hc hl
  rw [sk_f105] at h
  exact .inl ⟨Tryz.call45 _ _, h.mono fun e w' ⟨he, hb⟩ => ⟨_, he, _, H, E, ⟨rfl, rfl⟩, Ext.refl E, .str _, hR.below hb⟩⟩
theorem format_does {G : Nat → Option AV} (hg : G 0 = some (.vptr (Lib.pow10Tab.map fun z => .int .u64 z))) (n : Int) (h0 : -9223372036854775808 ≤ n) (h1 : n ≤ 9223372036854775807) (H : AHeap) :
    Does Tryz.prog G 170 [.int .i64 n, .int .i64 10] H fun r h => r = .str (Lib.itoa n) ∧ h = H := by
  refine ⟨fun E w vs hR hG hv => ?_⟩
  cases hv with | cons h1' hv =>
  cases hv with | cons h2' hv =>
  cases hv
  cases h1'
  cases h2'
  obtain ⟨c, e, fz, hK, hV⟩ := (hG _ _ hg).2 _ rfl
  have hw := hR.K _ _ hK
  have htab : Lib.TabIs Tryz.prog w "internal/strconv.uint64pow10" .u64 Lib.pow10Tab := by
    have hn : Tryz.prog.globalNamed "internal/strconv.uint64pow10" = some 0 := by kernel_rfl
    unfold Lib.TabIs World.var?
    rw [hn]
    simp only [Option.bind_some, hw]
    have key : ∀ (zs : List Int) (l : List Value), VRels E (zs.map fun z => AV.int .u64 z) l → l = zs.map fun z => Value.int .u64 z := by
      intro zs
      induction zs with
      | nil => intro l h; cases h; rfl
      | cons z zs ih =>
        intro l h
        cases h with | cons a b =>
        cases a
        rw [ih _ b]
        rfl
    have := key _ _ hV
    rw [← this]
  have h := Any.strconv_FormatInt_10 Tryz.laysFormat n h0 h1 w htab
  rw [sk_f173] at h
  refine .inl ⟨Tryz.call170 _ _, h.mono ?_⟩
  rintro x w' ⟨he, k, os, rfl⟩
  exact ⟨_, he, _, H, E, ⟨rfl, rfl⟩, Ext.refl E, .str _, hR.below (Lib.below_grow _ _ (Nat.le_refl _) _ _)⟩
end Go.Proofs.YtajcehcdmbfhaaaGreatDoor
