/-
  Own library of this claim, part 3: texts one behind the other (FxF, FxG, FxH, FxJ, FxI, FxK, LxS, KlD, FxKc, AbsXs, RgA, FrC, KlE, KlF, KlG, KlH, KlI, Bld, LxL, KlA, KlC).
-/
import Derived.Lib.Bytealg
import Derived.Laws.Externs
import Derived.Below
import Derived.RangeFuncRecord
import Derived.TacticsIn
import Derived.OrdersIn
import Derived.Laws.Entries
import Derived.Test.YtajcehcdmbfhaaaGreatDoorRows
import Derived.Lib.Walk
import Derived.Lib.UnsafeStr
import Derived.Lib.MakeNoZero
import Derived.Lib.Builder
import Derived.Laws.IdiomCopy
import Derived.Lib.BufferWrite
import Derived.Lib.Hide
import Derived.Laws.MakeOwn
import Derived.OwnWalk
import Derived.WalkKit
import Derived.ChangeArms
import Derived.DataReads
import Derived.OpenShut
import Derived.LaidLaws
import Derived.FnData
import GoSem.ClaimJoined
import Derived.Test.YtajcehcdmbfhaaaGreatDoorLibB
set_option linter.unusedVariables false
set_option linter.unusedSimpArgs false

/-
  A quick evaluator for closed calls, sixth part: an operation's run, and that it is right.
-/

namespace Go.Abs
open Go

noncomputable def effK (H : FH) (e : AEff) (k : FH → Bool) : Bool := match e with
  | .same => k H
  | .put i (.cells cs) => ifK (Nat.blt i 1048576) (H.putK i (.lst cs) k) false
  | .new (.cells cs) => H.newK (.lst cs) (fun _ H => k H) false
  | .move i (.cells cs) => H.moveK i (.lst cs) (fun _ H => k H) false
  | .new (.row t cs) => H.newS (.row t cs) (fun _ H => k H) false
  | .put i (.map es) => ifK (Nat.blt i 1048576) (H.putS i (.map es) k) false
  | _ => false
theorem effK_inv {H : FH} {e : AEff} {k : FH → Bool} (h : effK H e k = true) : ∃ H', H'.abs = H.abs.eff e ∧ k H' = true := by
  unfold effK at h
  split at h
  · exact ⟨H, rfl, h⟩
  · obtain ⟨h1, h⟩ := ifK_inv h
    exact FH.putK_inv (Nat.le_of_ble_eq_true h1) h
  · exact FH.newK_inv h
  · exact FH.moveK_inv h
  · exact FH.newS_inv h
  · obtain ⟨h1, h⟩ := ifK_inv h
    exact FH.putS_inv (x := .map _) (Nat.le_of_ble_eq_true h1) h
  · simp at h

noncomputable def fnK (fn : Fn) (k : FuncId → Bool) : Bool := match fn with
  | .func f => k f
  | _ => false
theorem fnK_inv {fn : Fn} {k : FuncId → Bool} (h : fnK fn k = true) : ∃ f, fn = .func f ∧ k f = true := by
  unfold fnK at h
  split at h
  · exact ⟨_, rfl, h⟩
  · simp at h

abbrev Om := FuncId → List AV → FH → (AV → FH → Bool) → Bool

noncomputable def loadK (base : Nat) (agg : Bool) (n : Nat) (a : AV) (H : FH) (k : AV → FH → Bool) : Bool :=
  a.onPtr false
    (fun i off => ifK (Nat.blt i base) (H.atK i (fun b => ifK agg (b.cutK off n (fun l => k (.agg l) H) false) (b.cellK off (fun v => k v H) false)) false) false)
    (fun cs => ifK agg (takeK cs n (fun l => k (.agg l) H) false) (nthK cs 0 (fun v => k v H) false))
noncomputable def b2sK (base : Nat) (a : AV) (H : FH) (k : AV → FH → Bool) : Bool :=
  a.onSl false (k (.str []) H)
    (fun i off _ len _ _ => ifK (Nat.blt i base) (H.atK i (fun b => b.cutK off len (fun l => bytesK l fun bs => k (.str bs) H) false) false) false)
    (fun cs len => takeK cs len (fun l => bytesK l fun bs => k (.str bs) H) false)
noncomputable def storeK (n : Nat) (p a : AV) (H : FH) (k : AV → FH → Bool) : Bool :=
  p.onPtr false
    (fun i off => H.atK i (fun b => ifK a.sc (ifK (Nat.beq n 1) (b.wr1 off a (fun b => H.putK i b fun H => k (.tuple []) H) false) false)
      (a.onAgg false fun cs => ifK (allB AV.sc cs) (ifK (Nat.beq (lenN cs) n) (b.wrs off cs (fun b => H.putK i b fun H => k (.tuple []) H) false) false) false)) false)
    (fun _ => false)
noncomputable def callK (ω : Om) (f : AV) (args : List FX) (T : ET) (H : FH) (k : AV → FH → Bool) : Bool :=
  f.onFunc false fun fn a c => fnK fn fun fid => fxsK args T fun as_ => appK as_ c fun r => appK a r fun r => ω fid r H k

noncomputable def FOp.run (ω : Om) (P : Program) (G : Nat → Option AV) (o : Oper) (base : Nat) (f : FOp) (T : ET) (H : FH) (k : AV → FH → Bool) : Bool :=
  FOp.rec (motive := fun _ => ET → FH → (AV → FH → Bool) → Bool)
    (fun f T H k => f.run P G o T fun v => k v H)
    (fun agg n x T H k => loadK base agg n (x.get T) H k)
    (fun x T H k => b2sK base (x.get T) H k)
    (fun b _ H k => H.newK b (fun i H => k (.ptr i 0) H) false)
    (fun x T H k => H.newK (.lst (x.get T).cs) (fun i H => k (.ptr i 0) H) false)
    (fun n x v T H k => storeK n (x.get T) (v.get T) H k)
    (fun size bytes x y T H k => appendK size bytes (x.get T) (y.get T) H k)
    (fun f args T H k => callK ω (f.get T) args T H k)
    (fun zc x T H k => clrK zc (x.get T) H k)
    (fun z x y T H k => cpyK z (x.get T) (y.get T) H k)
    (fun d z ok x y T H k => lookK base d z ok (x.get T) (y.get T) H k)
    (fun d m y x T H k => mputK d (m.get T) (y.get T) (x.get T) H k)
    (fun x T H k => mlenK base (x.get T) H k)
    (fun T H k => optK (aalloc P (aval G T.fn) o) fun x => H.newX x.1 (fun i H => k (x.2 i) H) false)
    (fun T H k => optK (aeff P (aval G T.fn) H.abs.get H.next o) fun x => effK H x.2 (k x.1))
    (fun _ _ _ => false)
    (fun T H k => optK (afrz P (aval G T.fn) o) fun v => k v H) f T H k

def FOp.isE : FOp → Bool
  | .store .. | .app .. | .call .. | .clr .. | .cpy .. | .gene | .mput .. => true
  | _ => false
def FOp.isA : FOp → Bool
  | .zero .. | .box .. | .gena => true
  | _ => false
def FOp.isR : FOp → Bool
  | .load .. | .b2s .. | .look .. | .mlen .. => true
  | _ => false

def objOf (cs : List AV) : FObj := if cs.length ≤ 24 then .lst cs else match cs with
  | [] => .lst []
  | a :: r => if r.all (fun b => b.beq a) then .arr (r.length + 1) (E32.all (E32.all (E32.all a))) else .lst (a :: r)
theorem objOf_list (cs : List AV) : (objOf cs).list = cs := by
  unfold objOf
  split
  · rfl
  · split
    · rfl
    · rename_i a r _
      split
      · rename_i h
        simp only [FObj.list, R3.get_all]
        apply List.ext_getElem?
        intro j
        by_cases hj : j < r.length + 1
        · rw [List.getElem?_map, List.getElem?_range hj, Option.map_some]
          cases j with
          | zero => rfl
          | succ j =>
            rw [List.getElem?_cons_succ, List.getElem?_eq_getElem (by omega)]
            rw [List.all_eq_true] at h
            rw [AV.beq_eq _ _ (h r[j] (List.getElem_mem _))]
        · rw [List.getElem?_eq_none (by simp; omega), List.getElem?_eq_none (by simp; omega)]
      · rfl

/-- An operation, made ready. -/
def fcop (P : Program) (G : Nat → Option AV) (o : Oper) : FOp := match o.op with
  | .load t x => match fx G x, aagg P t, asize P t with
    | some x, some a, some n => .load a n x
    | _, _, _ => .bad
  | .convert s d x => match P.underlying s, P.underlying d with
    | some (.slice e), some .string => match P.underlying e, fx G x with
      | some (.int .u8), some x => .b2s x
      | _, _ => .bad
    | some .string, some (.slice _) => .gena
    | some (.slice _), some (.slice _) => .gene
    | _, _ => .pure (fpure P G o)
  | .alloc t => match azero P t, builderTy P t with
    | some z, false => .zero (objOf z.cells)
    | some _, true => .gena
    | none, _ => .bad
  | .makeMap .. => .gena
  | .lookup t x k ok => match P.underlying t with
    | some (.map kt et) => match (P.underlying kt).bind keyT, azero P et, fx G x, fx G k with
      | some d, some z, some x, some k => .look d z ok x k
      | _, _, _, _ => .bad
    | _ => .bad
  | .mapUpdate t m k x | .insert t m k x => match P.underlying t with
    | some (.map kt _) => match (P.underlying kt).bind keyT, fx G m, fx G k, fx G x with
      | some d, some m, some k, some x => .mput d m k x
      | _, _, _, _ => .bad
    | _ => .bad
  | .box t x => match fx G x, builderTy P t with
    | some x, false => .box x
    | some _, true => .gena
    | none, _ => .bad
  | .buildSlice .. => .gena
  | .makeSlice .. => .gena
  | .store t x v => match fx G x, fx G v, asize P t with
    | some x, some v, some n => .store n x v
    | _, _, _ => .bad
  | .call c => match c.callee with
    | .builtin .append => match c.argTypes.toList, c.args.toList with
      | [t, u], [x, y] => match P.underlying t, P.underlying u with
        | some (.slice e), some (.slice _) => match P.info? e, azero P e, fx G x, fx G y with
          | some info, some z, some x, some y => if z.cells.length = info.size then .app info.size info.bytes x y else .gene
          | _, _, _, _ => .gene
        | _, _ => .gene
      | _, _ => .gene
    | .builtin .copy => match c.argTypes.toList, c.args.toList with
      | [t, u], [x, y] => match P.underlying t, P.underlying u with
        | some (.slice e), some (.slice _) => match asize P e, fx G x, fx G y with
          | some z, some x, some y => .cpy z x y
          | _, _, _ => .gene
        | _, _ => .gene
      | _, _ => .gene
    | .builtin .clear => match c.argTypes.toList, c.args.toList with
      | [t], [x] => match P.underlying t with
        | some (.slice e) => match azero P e, fx G x with
          | some z, some x => .clr z.cells x
          | _, _ => .gene
        | _ => .gene
      | _, _ => .gene
    | .builtin .delete => .gene
    | .builtin .len => match c.argTypes.toList, c.args.toList with
      | [t], [x] => match P.underlying t, fx G x with
        | some (.map _ _), some x => .mlen x
        | _, _ => .pure (fpure P G o)
      | _, _ => .pure (fpure P G o)
    | .builtin _ => .pure (fpure P G o)
    | .value f => match fx G f, fxs G c.args.toList with
      | some f, some as_ => .call f as_
      | _, _ => .bad
    | _ => .bad
  | _ => .pure (fpure P G o)

def GoodK (P : Program) (G : Nat → Option AV) (ω : Om) : Prop := ∀ f args H k, ω f args H k = true → ∃ v H', Does P G f args H.abs (fun r h => r = v ∧ h = H'.abs) ∧ H.next ≤ H'.next ∧ k v H' = true

/-- What an operation's run comes to. -/
def Comes (P : Program) (G : Nat → Option AV) (ops : Array Oper) (o : Oper) (f : FOp) (base : Nat) (T : ET) (H : FH) (k : AV → FH → Bool) : Prop :=
  ∃ v kd H', Step P G ops o T.fn H.abs v kd H'.abs ∧ H.next ≤ H'.next ∧ kd.isEff = f.isE ∧ (kd.isAlloc = true → f.isA = true) ∧
    kd.isRead = f.isR ∧ (kd.isRead = true → ∀ A : Nat → Option AObj, (∀ i, i < base → A i = H.abs.get i) → aread P (aval G T.fn) A o = some v) ∧ k v H' = true

section
variable {ω : Om} {P : Program} {G : Nat → Option AV} {ops : Array Oper} {o : Oper} {T : ET} {H : FH} {base : Nat} {k : AV → FH → Bool} {f : FOp}

theorem comes_pure (hw : awanted ops T.fn o = true) (hE : f.isE = false) (hRd : f.isR = false) (h : GoodP P G o T fun v => k v H) : Comes P G ops o f base T H k := by
  obtain ⟨v, h1, h2⟩ := h
  exact ⟨v, .idle, H, ⟨.inr ⟨hw, h1⟩, rfl⟩, Nat.le_refl _, hE.symm, fun h => by simp [Kind.isAlloc] at h, hRd.symm, fun h => by simp [Kind.isRead] at h, h2⟩
theorem comes_read (hw : awanted ops T.fn o = true) (hE : f.isE = false) (hf : f.isR = true) {v : AV} (h : ∀ A : Nat → Option AObj, (∀ i, i < base → A i = H.abs.get i) → aread P (aval G T.fn) A o = some v) (hk : k v H = true) : Comes P G ops o f base T H k :=
  ⟨v, .read, H, ⟨hw, h _ fun _ _ => rfl, rfl⟩, Nat.le_refl _, hE.symm, fun h => by simp [Kind.isAlloc] at h, hf.symm, fun _ => h, hk⟩
theorem comes_allocX (hw : awanted ops T.fn o = true) (hE : f.isE = false) (hRd : f.isR = false) (hf : f.isA = true) {x : AObj} {g : Nat → AV} {H' : FH} (ha : aalloc P (aval G T.fn) o = some (x, g)) (h1 : H'.abs = H.abs.push x) (h2 : k (g H.next) H' = true) : Comes P G ops o f base T H k := by
  refine ⟨g H.next, .alloc x, H', ⟨hw, g, ha, rfl, h1⟩, ?_, hE.symm, fun _ => hf, hRd.symm, fun h => by simp [Kind.isRead] at h, h2⟩
  have : H'.abs.next = H.next + 1 := by rw [h1]; rfl
  have e : H'.abs.next = H'.next := rfl
  omega
theorem comes_alloc (hw : awanted ops T.fn o = true) (hE : f.isE = false) (hRd : f.isR = false) (hf : f.isA = true) {b : FObj} {cs : List AV} {g : Nat → AV} (ha : aalloc P (aval G T.fn) o = some (.cells cs, g)) (hb : b.list = cs) (h : H.newK b (fun i H => k (g i) H) false = true) : Comes P G ops o f base T H k := by
  obtain ⟨H', h1, h2⟩ := FH.newK_inv h
  have h1 : H'.abs = H.abs.push (.cells cs) := by rw [h1]; unfold FObj.abs; rw [hb]
  exact comes_allocX hw hE hRd hf ha h1 h2
theorem comes_eff (hw : awanted ops T.fn o = true) (hf : f.isE = true) (hRd : f.isR = false) {v : AV} {e : AEff} {H' : FH} (he : aeff P (aval G T.fn) H.abs.get H.abs.next o = some (v, e)) (hH : H'.abs = H.abs.eff e) (hk : k v H' = true) : Comes P G ops o f base T H k := by
  refine ⟨v, .eff, H', ⟨hw, .inl ⟨e, he, hH⟩⟩, ?_, hf.symm, fun h => by simp [Kind.isAlloc] at h, hRd.symm, fun h => by simp [Kind.isRead] at h, hk⟩
  have h1 := eff_next H.abs e
  rw [← hH] at h1
  exact h1

theorem splice_one (cs : List AV) (o : Nat) (a : AV) (h : o < cs.length) : splice cs o [a] = cs.set o a := by
  rw [splice_cons cs o a [] h, splice_nil]

theorem fcop_sound (hω : GoodK P G ω) (hw : awanted ops T.fn o = true) (h : (fcop P G o).run ω P G o base T H k = true) : Comes P G ops o (fcop P G o) base T H k := by
  have pureCase : ∀ f, f = FOp.pure (fpure P G o) → f.run ω P G o base T H k = true → Comes P G ops o f base T H k := by
    rintro _ rfl h
    exact comes_pure hw rfl rfl (fpure_sound o h)
  have geneCase : ∀ f, f = FOp.gene → f.run ω P G o base T H k = true → Comes P G ops o f base T H k := by
    rintro _ rfl h
    obtain ⟨⟨v, e⟩, h1, h2⟩ := optK_inv (show optK (aeff P (aval G T.fn) H.abs.get H.next o) (fun x => effK H x.2 (k x.1)) = true from h)
    obtain ⟨H', h3, h4⟩ := effK_inv h2
    exact comes_eff hw rfl rfl h1 h3 h4
  have genaCase : ∀ f, f = FOp.gena → f.run ω P G o base T H k = true → Comes P G ops o f base T H k := by
    rintro _ rfl h
    obtain ⟨⟨x, g⟩, h1, h2⟩ := optK_inv (show optK (aalloc P (aval G T.fn) o) (fun x => H.newX x.1 (fun i H => k (x.2 i) H) false) = true from h)
    obtain ⟨H', h3, h4⟩ := FH.newX_inv h2
    exact comes_allocX hw rfl rfl rfl h1 h3 h4
  have badCase : ∀ f, f = FOp.bad → f.run ω P G o base T H k = true → Comes P G ops o f base T H k := by
    rintro _ rfl h
    have h : false = true := h
    simp at h
  generalize hf : fcop P G o = f at h ⊢
  unfold fcop at hf
  split at hf
  · rename_i t x ho
    split at hf
    · rename_i x' a n hx ha hn
      subst hf
      have h : loadK base a n (x'.get T) H k = true := h
      rcases AV.onPtr_inv h with ⟨i, off, hv, h⟩ | ⟨cs, hv, h⟩
      · obtain ⟨h1, h⟩ := ifK_inv h
        have h1 : i < base := Nat.le_of_ble_eq_true h1
        obtain ⟨b, hb, h, _⟩ := FH.atK_inv h
        have hb : H.abs.get i = some (.cells b.list) := hb
        cases a with
        | true =>
          obtain ⟨h2, h3⟩ := FObj.cutK_inv (show b.cutK off n (fun l => k (.agg l) H) false = true from h)
          refine comes_read hw rfl rfl (fun A hA => ?_) h3
          simp only [aread, ho, fx_eq hx, hv, aat, hA i h1, hb]
          rw [if_pos (by omega)]
          simp only [acut, ha, hn]
          rw [if_pos (by simp; omega)]
        | false =>
          obtain ⟨v, h2, h3⟩ := FObj.cellK_inv (show b.cellK off (fun v => k v H) false = true from h)
          refine comes_read hw rfl rfl (fun A hA => ?_) h3
          simp only [aread, ho, fx_eq hx, hv, aat, hA i h1, hb]
          have hlt : off < b.list.length := by
            rcases Nat.lt_or_ge off b.list.length with g | g
            · exact g
            · rw [List.getElem?_eq_none g] at h2; simp at h2
          rw [if_pos (by omega)]
          simp only [acut, ha, hn]
          rw [List.getElem?_drop, Nat.add_zero]; exact h2
      · cases a with
        | true =>
          have h : takeK cs n (fun l => k (.agg l) H) false = true := h
          rw [takeK_eq] at h
          split at h <;> try (simp at h; done)
          rename_i h2
          refine comes_read hw rfl rfl (fun A hA => ?_) h
          simp only [aread, ho, fx_eq hx, hv, aat, acut, ha, hn, if_pos h2]
        | false =>
          have h : nthK cs 0 (fun v => k v H) false = true := h
          rw [nthK_eq] at h
          split at h <;> try (simp at h; done)
          rename_i v hc
          refine comes_read hw rfl rfl (fun A hA => ?_) h
          simp only [aread, ho, fx_eq hx, hv, aat, acut, ha, hn, hc]
    · exact badCase _ hf.symm h
  · rename_i s d x ho
    split at hf
    · rename_i e hs hd
      split at hf
      · rename_i x' he hx
        subst hf
        have h : b2sK base (x'.get T) H k = true := h
        rcases AV.onSl_inv h with ⟨hv, h⟩ | ⟨i, off, z, len, cap, opn, hv, h⟩ | ⟨cs, len, hv, h⟩
        · refine comes_read hw rfl rfl (fun A hA => ?_) h
          simp only [aread, ho, hs, hd, he, fx_eq hx, hv]
        · obtain ⟨h1, h⟩ := ifK_inv h
          have h1 : i < base := Nat.le_of_ble_eq_true h1
          obtain ⟨b, hb, h, _⟩ := FH.atK_inv h
          have hb : H.abs.get i = some (.cells b.list) := hb
          obtain ⟨h2, h⟩ := FObj.cutK_inv h
          obtain ⟨bs, h3, h⟩ := bytesK_inv h
          refine comes_read hw rfl rfl (fun A hA => ?_) h
          simp only [aread, ho, hs, hd, he, fx_eq hx, hv, afirst, hA i h1, hb, Nat.mul_one, if_pos h2, h3, Option.map_some]
        · rw [takeK_eq] at h
          split at h <;> try (simp at h; done)
          rename_i h2
          obtain ⟨bs, h3, h⟩ := bytesK_inv h
          refine comes_read hw rfl rfl (fun A hA => ?_) h
          simp only [aread, ho, hs, hd, he, fx_eq hx, hv, afirst, Nat.mul_one, if_pos h2, h3, Option.map_some]
      · exact badCase _ hf.symm h
    · exact genaCase _ hf.symm h
    · exact geneCase _ hf.symm h
    · exact pureCase _ hf.symm h
  · rename_i t ho
    split at hf
    · rename_i z hz hb
      subst hf
      exact comes_alloc (b := objOf z.cells) (g := fun i => .ptr i 0) hw rfl rfl rfl (by simp only [aalloc, ho, hz, hb]; simp) (objOf_list _) h
    · exact genaCase _ hf.symm h
    · exact badCase _ hf.symm h
  · exact genaCase _ hf.symm h
  · rename_i t x key ok ho
    split at hf
    · rename_i kt et ht
      split at hf
      · rename_i d z x' key' hd hz hx hk
        subst hf
        rw [Option.bind_eq_some_iff] at hd
        obtain ⟨dd, hd1, hd2⟩ := hd
        obtain ⟨v, h1, h2⟩ := lookK_inv hd2 ht hd1 hz (show lookK base d z ok (x'.get T) (key'.get T) H k = true from h)
        exact comes_read hw rfl rfl (fun A hA => by simp only [aread, ho, fx_eq hx, fx_eq hk]; exact h1 A hA) h2
      · exact badCase _ hf.symm h
    · exact badCase _ hf.symm h
  · rename_i t m key x ho
    split at hf
    · rename_i kt et ht
      split at hf
      · rename_i d m' key' x' hd hm hk hx
        subst hf
        rw [Option.bind_eq_some_iff] at hd
        obtain ⟨dd, hd1, hd2⟩ := hd
        obtain ⟨e, H', h1, h2, h3⟩ := mputK_inv hd2 ht hd1 (show mputK d (m'.get T) (key'.get T) (x'.get T) H k = true from h)
        refine comes_eff (v := .tuple []) (e := e) (H' := H') hw rfl rfl ?_ h2 h3
        simp only [aeff, ho, fx_eq hm, fx_eq hk, fx_eq hx, h1, Option.map_some]
      · exact badCase _ hf.symm h
    · exact badCase _ hf.symm h
  · rename_i t m key x ho
    split at hf
    · rename_i kt et ht
      split at hf
      · rename_i d m' key' x' hd hm hk hx
        subst hf
        rw [Option.bind_eq_some_iff] at hd
        obtain ⟨dd, hd1, hd2⟩ := hd
        obtain ⟨e, H', h1, h2, h3⟩ := mputK_inv hd2 ht hd1 (show mputK d (m'.get T) (key'.get T) (x'.get T) H k = true from h)
        refine comes_eff (v := .tuple []) (e := e) (H' := H') hw rfl rfl ?_ h2 h3
        simp only [aeff, ho, fx_eq hm, fx_eq hk, fx_eq hx, h1, Option.map_some]
      · exact badCase _ hf.symm h
    · exact badCase _ hf.symm h
  · rename_i t x ho
    split at hf
    · rename_i x' hx hb
      subst hf
      exact comes_alloc (b := .lst (x'.get T).cs) (g := fun i => .ptr i 0) (cs := (x'.get T).cells) hw rfl rfl rfl (by simp only [aalloc, ho, fx_eq hx, hb]; simp) (AV.cs_eq _) h
    · exact genaCase _ hf.symm h
    · exact badCase _ hf.symm h
  · exact genaCase _ hf.symm h
  · exact genaCase _ hf.symm h
  · rename_i t x v ho
    split at hf
    · rename_i x' v' n hx hv hn
      subst hf
      have h : storeK n (x'.get T) (v'.get T) H k = true := h
      rcases AV.onPtr_inv h with ⟨i, off, hp, h⟩ | ⟨cs, hp, h⟩
      · obtain ⟨b, hb, h, hi⟩ := FH.atK_inv h
        have hb : H.abs.get i = some (.cells b.list) := hb
        cases hsc : (v'.get T).sc with
        | true =>
          rw [hsc, ifK_true] at h
          obtain ⟨h1, h⟩ := ifK_inv h
          have h1 : n = 1 := by simpa using h1
          obtain ⟨h2, b', h3, h⟩ := FObj.wr1_inv h
          obtain ⟨H', h4, h⟩ := FH.putK_inv hi h
          have hcl : (v'.get T).cells = [v'.get T] := by
            rw [AV.sc_eq] at hsc
            cases hvv : v'.get T <;> rw [hvv] at hsc <;> first | rfl | simp [AV.scalar] at hsc
          refine comes_eff (v := .tuple []) (e := .put i (.cells (b.list.set off (v'.get T)))) (H' := H') hw rfl rfl ?_ ?_ h
          · simp only [aeff, ho, fx_eq hx, hp, fx_eq hv, hb, hn, hcl]
            rw [AV.sc_eq] at hsc
            rw [if_pos ⟨by simp [h1], by simp [hsc], by omega⟩, splice_one _ _ _ h2]
          · rw [h4]; unfold FObj.abs; rw [h3]; rfl
        | false =>
          rw [hsc, ifK_false] at h
          obtain ⟨cs, ha, h⟩ := AV.onAgg_inv h
          obtain ⟨h1, h⟩ := ifK_inv h
          obtain ⟨h2, h⟩ := ifK_inv h
          rw [lenN_eq] at h2
          have h2 : cs.length = n := by simpa using h2
          obtain ⟨h3, b', h4, h⟩ := FObj.wrs_inv h
          obtain ⟨H', h5, h⟩ := FH.putK_inv hi h
          refine comes_eff (v := .tuple []) (e := .put i (.cells (splice b.list off cs))) (H' := H') hw rfl rfl ?_ ?_ h
          · have hcl : (v'.get T).cells = cs := by rw [ha]; rfl
            simp only [aeff, ho, fx_eq hx, hp, fx_eq hv, hb, hn, hcl]
            rw [if_pos ⟨h2, allB_sc h1, by omega⟩]
          · rw [h5]; unfold FObj.abs; rw [h4]; rfl
      · simp at h
    · exact badCase _ hf.symm h
  · rename_i c ho
    split at hf
    · rename_i hc
      split at hf
      · rename_i t u x y ht hx
        split at hf
        · rename_i e e' hut huu
          split at hf
          · rename_i info z x' y' hi hz hx' hy'
            split at hf
            · rename_i hzl
              subst hf
              have h : appendK info.size info.bytes (x'.get T) (y'.get T) H k = true := h
              obtain ⟨v, eff, H', h1, h2, h3⟩ := appendK_inv hut huu rfl hi hz hzl rfl rfl h
              refine comes_eff hw rfl rfl ?_ h2 h3
              simp only [aeff, ho, hc, ht, hx, fx_eq hx', fx_eq hy', h1]
            · exact geneCase _ hf.symm h
          · exact geneCase _ hf.symm h
        · exact geneCase _ hf.symm h
      · exact geneCase _ hf.symm h
    · rename_i hc
      split at hf
      · rename_i t u x y ht hx
        split at hf
        · rename_i e e' hut huu
          split at hf
          · rename_i z x' y' hz hx' hy'
            subst hf
            have h : cpyK z (x'.get T) (y'.get T) H k = true := h
            obtain ⟨v, eff, H', h1, h2, h3⟩ := cpyK_inv hut hz h
            refine comes_eff hw rfl rfl ?_ h2 h3
            simp only [aeff, ho, hc, ht, hx, fx_eq hx', fx_eq hy', h1]
          · exact geneCase _ hf.symm h
        · exact geneCase _ hf.symm h
      · exact geneCase _ hf.symm h
    · rename_i hc
      split at hf
      · rename_i t x ht hx
        split at hf
        · rename_i e hut
          split at hf
          · rename_i z x' hz hx'
            subst hf
            have h : clrK z.cells (x'.get T) H k = true := h
            obtain ⟨v, eff, H', h1, h2, h3⟩ := clrK_inv hut hz h
            refine comes_eff hw rfl rfl ?_ h2 h3
            simp only [aeff, ho, hc, ht, hx, fx_eq hx', h1]
          · exact geneCase _ hf.symm h
        · exact geneCase _ hf.symm h
      · exact geneCase _ hf.symm h
    · exact geneCase _ hf.symm h
    · rename_i hc
      split at hf
      · rename_i t x ht hx
        split at hf
        · rename_i kt et x' hut hx'
          subst hf
          obtain ⟨v, h1, h2⟩ := mlenK_inv hut (show mlenK base (x'.get T) H k = true from h)
          exact comes_read hw rfl rfl (fun A hA => by simp only [aread, ho, hc, ht, hx, fx_eq hx']; exact h1 A hA) h2
        · exact pureCase _ hf.symm h
      · exact pureCase _ hf.symm h
    · exact pureCase _ hf.symm h
    · rename_i fo hc
      split at hf
      · rename_i f' as_ hf' has
        subst hf
        have h : callK ω (f'.get T) as_ T H k = true := h
        obtain ⟨fn, a, c', hv, h⟩ := AV.onFunc_inv h
        obtain ⟨fid, hfn, h'⟩ := fnK_inv h
        subst hfn
        rw [fxsK_eq, appK_eq, appK_eq] at h'
        obtain ⟨v, H', h1, h2, h3⟩ := hω _ _ _ _ h'
        refine ⟨v, .eff, H', ⟨hw, .inr ⟨fid, a ++ as_.map (·.get T) ++ c', ?_, ?_⟩⟩, h2, rfl, fun h => by simp [Kind.isAlloc] at h, rfl, fun h => by simp [Kind.isRead] at h, h3⟩
        · simp only [acallee, ho, hc, fx_eq hf', hv, fxs_eq has]
        · rw [List.append_assoc]; exact h1
      · exact badCase _ hf.symm h
    · exact badCase _ hf.symm h
  · exact pureCase _ hf.symm h
/-- As it is, but that new blocks of cells are frozen. -/
def fcopZ (P : Program) (G : Nat → Option AV) (o : Oper) : FOp := match o.op with
  | .alloc _ | .box .. | .buildSlice .. | .makeSlice .. => .frz
  | _ => fcop P G o
/-- A way of making operations ready. -/
def CopOk (P : Program) (G : Nat → Option AV) (ω : Om) (ops : Array Oper) (cop : Oper → FOp) : Prop := ∀ o T H base k, awanted ops (ET.fn T) o = true → (cop o).run ω P G o base T H k = true → Comes P G ops o (cop o) base T H k
theorem copOk (hω : GoodK P G ω) : CopOk P G ω ops (fcop P G) := fun _ _ _ _ _ hw h => fcop_sound hω hw h
theorem copZOk (hω : GoodK P G ω) : CopOk P G ω ops (fcopZ P G) := fun o T H base k hw h => by
  have key : (FOp.frz).run ω P G o base T H k = true → Comes P G ops o .frz base T H k := fun h => by
    obtain ⟨v, h1, h2⟩ := optK_inv (show optK (afrz P (aval G T.fn) o) (fun v => k v H) = true from h)
    exact ⟨v, .frz, H, ⟨hw, h1, rfl⟩, Nat.le_refl _, rfl, fun h => by simp [Kind.isAlloc] at h, rfl, fun h => by simp [Kind.isRead] at h, h2⟩
  unfold fcopZ at h ⊢
  generalize o.op = op at h ⊢
  cases op <;> first | exact key h | exact fcop_sound hω hw h
end
end Go.Abs

/-
  A quick evaluator for closed calls, seventh part: lists of operations, and regions that draw their order.
-/

namespace Go.Abs
open Go

inductive FG where
  | no
  | on (x : FX) (w : Bool)
  | never
  | bad
inductive FD where
  | no
  | at (p q : P32)
structure FOper where
  g : FG
  d : FD
  e : Bool
  f : FOp
  o : Oper

def fcg (ops : Array Oper) (o : Oper) : FG := match o.guard with
  | none => .no
  | some (j, w) => match (ops[j]?).bind (·.dst) with
    | some d => if d < 1024 then .on (.loc (P32.of (d / 32)) (P32.of (d % 32))) w else .bad
    | none => .never
def fcd (o : Oper) : FD := match o.dst with
  | none => .no
  | some d => .at (P32.of (d / 32)) (P32.of (d % 32))
/-- An operation, made ready; whether its region draws. -/
def fcoper (cop : Oper → FOp) (ops : Array Oper) (draw : Bool) (o : Oper) : FOper := ⟨fcg ops o, fcd o, draw && (cop o).isE, cop o, o⟩

noncomputable def eqB (a b : Bool) : Bool := Bool.rec (motive := fun _ => Bool) (notK b) b a
theorem eqB_eq (a b : Bool) : eqB a b = (a == b) := by cases a <;> cases b <;> rfl
noncomputable def guardK (g : FG) (T : ET) (y n : Bool) : Bool := FG.rec (motive := fun _ => Bool) y (fun x w => (x.get T).onBool n fun b => ifK (eqB b w) y n) n false g
noncomputable def putD (d : FD) (v : AV) (T : ET) (k : ET → Bool) : Bool := FD.rec (motive := fun _ => Bool) (k T) (fun p q => ET.put p q v T k) d

theorem guardK_inv {ops : Array Oper} {o : Oper} {T : ET} {y n : Bool} (h : guardK (fcg ops o) T y n = true) : (awanted ops T.fn o = true ∧ y = true) ∨ (awanted ops T.fn o = false ∧ n = true) := by
  unfold fcg at h
  split at h
  · rename_i hg; exact .inl ⟨by simp [awanted, hg], h⟩
  · rename_i j w hg
    split at h
    · rename_i d hd
      split at h
      · rename_i hlt
        have e : FX.get (.loc (P32.of (d / 32)) (P32.of (d % 32))) T = T.fn d := by simp [FX.get, ET.fn, hlt]
        have h : (FX.get (.loc (P32.of (d / 32)) (P32.of (d % 32))) T).onBool n (fun b => ifK (eqB b w) y n) = true := h
        rw [e] at h
        rcases AV.onBool_inv h with ⟨b, hb, h⟩ | ⟨h, hne⟩
        · rw [eqB_eq] at h
          cases hbw : b == w with
          | true => rw [hbw] at h; exact .inl ⟨by simp only [awanted, hg, ayield, hd, hb]; simpa using hbw, h⟩
          | false => rw [hbw] at h; exact .inr ⟨by simp only [awanted, hg, ayield, hd, hb]; simpa using hbw, h⟩
        · refine .inr ⟨?_, h⟩
          simp only [awanted, hg, ayield, hd]
          cases hv : T.fn d <;> first | rfl | exact absurd hv (hne _)
      · have h : false = true := h
        simp at h
    · rename_i hd
      exact .inr ⟨by simp [awanted, hg, ayield, hd], h⟩

theorem putD_eq {o : Oper} {v : AV} {T : ET} {k : ET → Bool} {N : Nat} (hN : N ≤ 1024) (hd : ∀ j, o.dst = some j → j < N) (h : putD (fcd o) v T k = true) : ∃ T', T'.fn = tput T.fn o.dst v ∧ k T' = true := by
  unfold fcd at h
  split at h
  · rename_i hd'; exact ⟨T, by rw [hd']; rfl, h⟩
  · rename_i d hd'
    have h : ET.put (P32.of (d / 32)) (P32.of (d % 32)) v T k = true := h
    rw [ET.put_eq] at h
    exact ⟨_, by rw [ET.fn_set T d v (Nat.lt_of_lt_of_le (hd d hd') hN), hd'], h⟩

/-- Operations, one behind the other; what was there (below 'base') when the last one that writes had run. -/
noncomputable def runL (ω : Om) (P : Program) (G : Nat → Option AV) (l : List FOper) : Nat → ET → FH → (ET → FH → Bool) → Bool :=
  List.rec (motive := fun _ => Nat → ET → FH → (ET → FH → Bool) → Bool) (fun _ T H k => k T H)
    (fun fo _ ih base T H k => FOper.rec (motive := fun _ => Bool) (fun g d e f o =>
      guardK g T (f.run ω P G o base T H fun v H' => v.force fun v => putD d v T fun T => ih (ifK e H'.next base) T H' k) (putD d undefA T fun T => ih base T H k)) fo) l

/-- What a run's record says. -/
def BOk (P : Program) (G : Nat → Option AV) (cop : Oper → FOp) (draw : Bool) (Hn : AHeap) : List Oper → List Full → Nat → Prop
  | o :: l, x :: u, b => (x.k.isEff = true → (cop o).isE = true) ∧ (x.k.isAlloc = true → (cop o).isA = true) ∧
      (x.k.isRead = true → (cop o).isR = true ∧ ∀ A : Nat → Option AObj, (∀ i, i < b → A i = x.H.get i) → aread P (aval G x.T) A o = some x.v) ∧
      BOk P G cop draw Hn l u (if draw = true ∧ x.k.isEff = true then (hAt u Hn 0).next else b)
  | _, _, _ => True

section
variable {ω : Om} {P : Program} {G : Nat → Option AV} {N : Nat} {ops : Array Oper} {cop : Oper → FOp}

theorem BOk.le {draw : Bool} {Hn : AHeap} : ∀ {l : List Oper} {u : List Full} {b b' : Nat}, b ≤ b' → BOk P G cop draw Hn l u b → BOk P G cop draw Hn l u b'
  | [], _, _, _, _, _ => by simp [BOk]
  | _ :: _, [], _, _, _, _ => by simp [BOk]
  | o :: l, x :: u, b, b', hle, h => by
    obtain ⟨h1, h2, h3, h4⟩ := h
    refine ⟨h1, h2, fun hr => ⟨(h3 hr).1, fun A hA => (h3 hr).2 A fun i hi => hA i (by omega)⟩, ?_⟩
    split
    · rename_i hc; rw [if_pos hc] at h4; exact h4
    · rename_i hc; rw [if_neg hc] at h4; exact BOk.le hle h4

theorem runL_inv (hω : CopOk P G ω ops cop) (hN : N ≤ 1024) (draw : Bool) : ∀ (l : List Oper) (base : Nat) (T : ET) (H : FH) (k : ET → FH → Bool), dstOk N l = true → runL ω P G (l.map (fcoper cop ops draw)) base T H k = true →
    ∃ u T' H', Tr P G ops l T.fn H.abs u T'.fn (FH.abs H') ∧ H.next ≤ H'.next ∧ BOk P G cop draw H'.abs l u base ∧ k T' H' = true
  | [], base, T, H, k, _, h => ⟨[], T, H, .nil, Nat.le_refl _, trivial, h⟩
  | o :: l, base, T, H, k, hd, h => by
    have h : guardK (fcg ops o) T ((cop o).run ω P G o base T H fun v H' => v.force fun v => putD (fcd o) v T fun T => runL ω P G (l.map (fcoper cop ops draw)) (ifK (draw && (cop o).isE) H'.next base) T H' k)
        (putD (fcd o) undefA T fun T => runL ω P G (l.map (fcoper cop ops draw)) base T H k) = true := h
    have hd0 : ∀ j, o.dst = some j → j < N := fun j hj => by
      unfold dstOk at hd
      rw [List.all_cons, Bool.and_eq_true] at hd
      have := hd.1
      rw [hj] at this
      simpa using this
    have hdr : dstOk N l = true := by
      unfold dstOk at hd ⊢
      rw [List.all_cons, Bool.and_eq_true] at hd
      exact hd.2
    rcases guardK_inv h with ⟨hw, h⟩ | ⟨hw, h⟩
    · obtain ⟨v, kd, H1, hs, hn, he, ha, hr0, hr, h⟩ := hω _ _ _ _ _ hw h
      have h := (AV.force_eq v _).symm.trans h
      obtain ⟨T1, hT1, h⟩ := putD_eq hN hd0 h
      obtain ⟨u, T', H', htr, hn', hb, hk⟩ := runL_inv hω hN draw l _ T1 H1 k hdr h
      refine ⟨⟨T.fn, H.abs, v, kd⟩ :: u, T', H', .cons hs hn (by rw [← hT1]; exact htr), by omega, ⟨fun h => he ▸ h, ha, fun h => ⟨hr0 ▸ h, hr h⟩, ?_⟩, hk⟩
      have h0 : hAt u H'.abs 0 = H1.abs := (tr_spec htr).1
      rw [h0]
      rw [← he] at hb
      show BOk P G cop draw H'.abs l u (if draw = true ∧ kd.isEff = true then H1.next else base)
      cases draw <;> cases hk : kd.isEff <;> rw [hk] at hb <;> exact hb
    · obtain ⟨T1, hT1, h⟩ := putD_eq hN hd0 h
      obtain ⟨u, T', H', htr, hn', hb, hk⟩ := runL_inv hω hN draw l _ T1 H k hdr h
      refine ⟨⟨T.fn, H.abs, undefA, .idle⟩ :: u, T', H', .cons ⟨.inl ⟨hw, rfl⟩, rfl⟩ (Nat.le_refl _) (by rw [← hT1]; exact htr), hn', ⟨fun h => by simp [Kind.isEff] at h, fun h => by simp [Kind.isAlloc] at h, fun h => by simp [Kind.isRead] at h, ?_⟩, hk⟩
      rw [if_neg (by simp [Kind.isEff])]
      exact hb
end
end Go.Abs

/-
  A quick evaluator for closed calls, eighth part: a region that draws its order, by what its text alone says.
-/

namespace Go.Abs
open Go

structure Flags where
  e : Bool
  a : Bool
  r : Bool
def flagsOf (f : FOp) : Flags := ⟨f.isE, f.isA, f.isR⟩

/-- All that writes is in order with all that reads or writes, and comes behind what it is not ordered with and that lays a block. -/
def statOk (fs : List Flags) (as_ : List Nat) : Bool :=
  fs.zipIdx.all fun (y, j) => fs.zipIdx.all fun (x, i) => !decide (i < j) || !((y.e && (x.e || x.a || x.r)) || (y.r && x.e)) || (as_.getD j 0).testBit i

section
variable {ω : Om} {P : Program} {G : Nat → Option AV} {N : Nat} {ops : Array Oper} {cop : Oper → FOp}

theorem tr_al {l : List Oper} {T T' : Nat → AV} {H H' : AHeap} {u : List Full} {Q : Exit → (Nat → AV) → AHeap → Prop} (h : Tr P G ops l T H u T' H') (hd : dstOk N l = true) (hQ : Q .normal T' H') : AL P G N ops l Q T H := by
  induction h with
  | nil => exact al_nil hQ
  | @cons o r T H H1 v k s T' H' hs hn h ih =>
    have hd0 : ∀ j, o.dst = some j → j < N := fun j hj => by
      unfold dstOk at hd
      rw [List.all_cons, Bool.and_eq_true] at hd
      have := hd.1
      rw [hj] at this
      simpa using this
    have hdr : dstOk N r = true := by
      unfold dstOk at hd ⊢
      rw [List.all_cons, Bool.and_eq_true] at hd
      exact hd.2
    exact step_al hs hd0 (ih hdr hQ)

theorem step_keep {o : Oper} {T : Nat → AV} {H H' : AHeap} {v : AV} {k : Kind} (hs : Step P G ops o T H v k H') (hk : k.isEff = false) {i : Nat} (hi : i < H.next) : H'.get i = H.get i := by
  cases k with
  | idle => rw [hs.2]
  | read => rw [hs.2.2]
  | alloc cs =>
    obtain ⟨_, f, _, _, h⟩ := hs
    rw [h, AHeap.get_push, if_neg (by omega)]
  | frz => rw [hs.2.2]
  | eff => simp [Kind.isEff] at hk

/-- The base at an operation: what was there behind the last one ahead of it that wrote. -/
theorem BOk.at {Hn : AHeap} : ∀ (l : List Oper) (u : List Full) (b i : Nat) (x : Full) (o : Oper), BOk P G cop true Hn l u b → u[i]? = some x → l[i]? = some o →
    (x.k.isEff = true → (cop o).isE = true) ∧ (x.k.isAlloc = true → (cop o).isA = true) ∧
    (x.k.isRead = true → (cop o).isR = true ∧ ∃ b', (∀ A : Nat → Option AObj, (∀ i, i < b' → A i = x.H.get i) → aread P (aval G x.T) A o = some x.v) ∧
      ((b' = b ∧ ∀ e y, e < i → u[e]? = some y → y.k.isEff = false) ∨ ∃ e y, e < i ∧ u[e]? = some y ∧ y.k.isEff = true ∧ b' = (hAt u Hn (e + 1)).next ∧ ∀ e' y', e < e' → e' < i → u[e']? = some y' → y'.k.isEff = false))
  | [], u, b, i, x, o, _, _, ho => by simp at ho
  | q :: l, [], b, i, x, o, _, hx, _ => by simp at hx
  | q :: l, z :: u, b, 0, x, o, h, hx, ho => by
    simp only [List.getElem?_cons_zero, Option.some.injEq] at hx ho
    subst hx; subst ho
    obtain ⟨h1, h2, h3, _⟩ := h
    exact ⟨h1, h2, fun hr => ⟨(h3 hr).1, b, (h3 hr).2, .inl ⟨rfl, fun e y he => absurd he (Nat.not_lt_zero _)⟩⟩⟩
  | q :: l, z :: u, b, i + 1, x, o, h, hx, ho => by
    obtain ⟨_, _, _, h4⟩ := h
    have hx' : u[i]? = some x := by simpa using hx
    have ho' : l[i]? = some o := by simpa using ho
    obtain ⟨g1, g2, g3⟩ := BOk.at l u _ i x o h4 hx' ho'
    refine ⟨g1, g2, fun hr => ⟨(g3 hr).1, ?_⟩⟩
    obtain ⟨b', k1, k2⟩ := (g3 hr).2
    refine ⟨b', k1, ?_⟩
    rcases k2 with ⟨hb, hno⟩ | ⟨e, y, he, hy, hye, hb, hno⟩
    · cases hz : z.k.isEff with
      | true =>
        rw [hz] at hb
        refine .inr ⟨0, z, by omega, rfl, hz, ?_, fun e' y' h1 h2 h3 => ?_⟩
        · simpa [hAt] using hb
        · cases e' with
          | zero => omega
          | succ e' => exact hno e' y' (by omega) (by simpa using h3)
      | false =>
        rw [hz] at hb
        refine .inl ⟨by simpa using hb, fun e y he hy => ?_⟩
        cases e with
        | zero => simp at hy; subst hy; exact hz
        | succ e => exact hno e y (by omega) (by simpa using hy)
    · refine .inr ⟨e + 1, y, by omega, by simpa using hy, hye, by simpa [hAt] using hb, fun e' y' h1 h2 h3 => ?_⟩
      cases e' with
      | zero => omega
      | succ e' => exact hno e' y' (by omega) (by omega) (by simpa using h3)

theorem statOk_spec {fs : List Flags} {i j : Nat} {x y : Flags} (h : statOk fs (ancs ops.toList) = true) (hij : i < j) (hx : fs[i]? = some x) (hy : fs[j]? = some y) (hc : ((y.e && (x.e || x.a || x.r)) || (y.r && x.e)) = true) : Reach ops i j := by
  unfold statOk at h
  rw [List.all_eq_true] at h
  have := h (y, j) (mem_zipIdx hy)
  simp only [List.all_eq_true] at this
  have := this (x, i) (mem_zipIdx hx)
  simp only [hij, decide_true, Bool.not_true, Bool.false_or, hc] at this
  exact ancs_sound this

/-- All that writes is in order, and behind what lays a block ahead of it. -/
def EffOrd (cop : Oper → FOp) (ops : Array Oper) : Prop := ∀ i j o q, i < j → ops[i]? = some o → ops[j]? = some q → (cop q).isE = true → ((cop o).isE = true ∨ (cop o).isA = true) → Reach ops i j
/-- A read is in order with all that writes. -/
def ReadOrd (cop : Oper → FOp) (ops : Array Oper) (r : Nat) : Prop := ∀ e o, ops[e]? = some o → (cop o).isE = true → (e < r → Reach ops e r) ∧ (r < e → Reach ops r e)
/-- A read gives the same wherever it may stand. -/
def ReadSame (P : Program) (G : Nat → Option AV) (ops : Array Oper) (u : List Full) (Hn : AHeap) (r : Nat) (o : Oper) (x : Full) : Prop :=
  ∀ q, q ≤ ops.size → (q = 0 ∨ ∃ e y, q = e + 1 ∧ u[e]? = some y ∧ y.k.isEff = true) → (∀ e y, e < q → u[e]? = some y → y.k.isEff = true → ¬ Reach ops r e) → (∀ e y, q ≤ e → u[e]? = some y → y.k.isEff = true → ¬ Reach ops e r) →
    aread P (aval G x.T) (hAt u Hn q).get o = some x.v

theorem gen_draw (hm : P.follows .mixedOrders = true) (hok : regionOk N ops = true) (heff : EffOrd cop ops)
    {T T' : Nat → AV} {H H' : AHeap} {u : List Full} {Q : Exit → (Nat → AV) → AHeap → Prop} {id : Nat}
    (hrd : ∀ r x o, u[r]? = some x → ops[r]? = some o → x.k.isRead = true → ReadOrd cop ops r ∨ ReadSame P G ops u H' r o x) (htr : Tr P G ops ops.toList T H u T' H') (hb : BOk P G cop true H' ops.toList u H.next) (hQ : Q .normal T' H') : AW P G N (.region id ops true) Q T H := by
  simp only [regionOk, Bool.and_eq_true] at hok
  obtain ⟨⟨hback, hslots⟩, hdst⟩ := hok
  have hdst' := dstOk_spec hdst
  have hlen : u.length = ops.size := by rw [tr_length htr]; exact Array.length_toList
  obtain ⟨hH0, hT0, hstep⟩ := tr_spec htr
  have hget : ∀ i, i < ops.size → ∃ x o, u[i]? = some x ∧ ops[i]? = some o := fun i hi => by
    obtain ⟨o, ho⟩ := get_of hi
    exact ⟨u[i]'(by omega), o, List.getElem?_eq_getElem (by omega), ho⟩
  have hlt : ∀ i x, u[i]? = some x → i < ops.size := fun i x hx => by
    rcases Nat.lt_or_ge i u.length with g | g
    · omega
    · rw [List.getElem?_eq_none g] at hx; simp at hx
  let vAt : Nat → AV := fun i => match u[i]? with | some y => y.v | none => undefA
  let kAt : Nat → Kind := fun i => match u[i]? with | some y => y.k | none => .idle
  have kx : ∀ {i x}, u[i]? = some x → kAt i = x.k := fun {i x} hx => by simp only [kAt, hx]
  have bAt : ∀ {i x o}, u[i]? = some x → ops[i]? = some o → _ := fun {i x o} hx ho => BOk.at ops.toList u H.next i x o hb hx (by simpa using ho)
  have mono1 : ∀ i, i < ops.size → (hAt u H' i).next ≤ (hAt u H' (i + 1)).next := fun i hi => by
    obtain ⟨x, o, hx, ho⟩ := hget i hi
    have := (hstep i x o hx (by simpa using ho)).2.1
    have e4 : hAt u H' i = x.H := by simp only [hAt, hx]
    rw [e4]; exact this
  have mono : ∀ i j, i ≤ j → j ≤ ops.size → (hAt u H' i).next ≤ (hAt u H' j).next := fun i j hij hj => by
    induction j with
    | zero => have : i = 0 := by omega
              subst this; exact Nat.le_refl _
    | succ j ih =>
      by_cases e : i = j + 1
      · subst e; exact Nat.le_refl _
      · exact Nat.le_trans (ih (by omega) (by omega)) (mono1 j (by omega))
  have keep : ∀ i j, i ≤ j → j ≤ ops.size → (∀ e y, i ≤ e → e < j → u[e]? = some y → y.k.isEff = false) → ∀ c, c < (hAt u H' i).next → (hAt u H' j).get c = (hAt u H' i).get c := fun i j hij hj hno c hc => by
    induction j with
    | zero => have : i = 0 := by omega
              subst this; rfl
    | succ j ih =>
      by_cases e : i = j + 1
      · subst e; rfl
      · obtain ⟨x, o, hx, ho⟩ := hget j (by omega)
        have e4 : hAt u H' j = x.H := by simp only [hAt, hx]
        have hs := (hstep j x o hx (by simpa using ho)).1
        have h1 := ih (by omega) (by omega) (fun e y h1 h2 => hno e y h1 (by omega))
        rw [← h1, e4]
        refine step_keep hs (hno j x (by omega) (by omega) hx) ?_
        rw [← e4]
        exact Nat.lt_of_lt_of_le hc (mono i j (by omega) (by omega))
  let R : Run P G N ops :=
    { T := fun i => tAt' u T' i
      H := fun i => hAt u H' i
      v := vAt
      k := kAt
      step := fun i o ho => by
        obtain ⟨x, o', hx, ho'⟩ := hget i (get_lt ho)
        have := (hstep i x o hx (by simpa using ho)).1
        have e1 : tAt' u T' i = x.T := by simp only [tAt', hx]
        have e2 : vAt i = x.v := by simp only [vAt, hx]
        have e3 : kAt i = x.k := kx hx
        have e4 : hAt u H' i = x.H := by simp only [hAt, hx]
        rw [e1, e2, e3, e4]; exact this
      put := fun i o ho => by
        obtain ⟨x, o', hx, ho'⟩ := hget i (get_lt ho)
        have := (hstep i x o hx (by simpa using ho)).2.2
        have e1 : tAt' u T' i = x.T := by simp only [tAt', hx]
        have e2 : vAt i = x.v := by simp only [vAt, hx]
        rw [this, e1, e2]
      dst := hdst'
      mono := mono1
      back := backOk_spec hback
      slots := slotsOk_spec hslots
      effs := fun i j hij hj hk hk' => by
        obtain ⟨x, o, hx, ho⟩ := hget i (by omega)
        obtain ⟨y, q, hy, hq⟩ := hget j hj
        rw [kx hy] at hk
        rw [kx hx] at hk'
        refine heff i j o q hij ho hq ((bAt hy hq).1 hk) ?_
        rcases hk' with h2 | h2
        · exact .inl ((bAt hx ho).1 h2)
        · exact .inr ((bAt hx ho).2.1 h2)
      reads := fun r o ho hk q hq hq0 hlo hhi g0 hg0 _ => by
        refine aread_mono hg0 ?_
        obtain ⟨x, o', hx, ho'⟩ := hget r (get_lt ho)
        rw [ho] at ho'; simp only [Option.some.injEq] at ho'; subst ho'
        have hk : kAt r = .read := hk
        rw [kx hx] at hk
        have hrd' : x.k.isRead = true := by rw [hk]; rfl
        have hxe : x.k.isEff = false := by rw [hk]; rfl
        have e1 : tAt' u T' r = x.T := by simp only [tAt', hx]
        have e2 : vAt r = x.v := by simp only [vAt, hx]
        have e4 : hAt u H' r = x.H := by simp only [hAt, hx]
        have hrl := get_lt ho
        obtain ⟨hR, b', hst', hb'⟩ := (bAt hx ho).2.2 hrd'
        rcases hrd r x o hx ho hrd' with hord | hsame
        case inr =>
          rw [e1, e2]
          refine hsame q hq ?_ (fun e y he hy hye => hlo e he (by show (kAt e).isEff = true; rw [kx hy]; exact hye)) (fun e y he hy hye => hhi e he (hlt e y hy) (by show (kAt e).isEff = true; rw [kx hy]; exact hye))
          rcases hq0 with h | ⟨e, h1, h2⟩
          · exact .inl h
          · have h2 : (kAt e).isEff = true := h2
            obtain ⟨y, o2, hy, _⟩ := hget e (by omega)
            rw [kx hy] at h2
            exact .inr ⟨e, y, h1, hy, h2⟩
        have before : ∀ e y, e < r → u[e]? = some y → y.k.isEff = true → e < q := fun e y he hy hye => by
          rcases Nat.lt_or_ge e q with g | g
          · exact g
          · obtain ⟨y', o2, hy', ho2⟩ := hget e (hlt e y hy)
            have hE := (bAt hy ho2).1 hye
            exact absurd ((hord e o2 ho2 hE).1 he) (hhi e g (hlt e y hy) (by show (kAt e).isEff = true; rw [kx hy]; exact hye))
        have after : ∀ e y, r < e → u[e]? = some y → y.k.isEff = true → q ≤ e := fun e y he hy hye => by
          rcases Nat.lt_or_ge e q with g | g
          · obtain ⟨y', o2, hy', ho2⟩ := hget e (hlt e y hy)
            have hE := (bAt hy ho2).1 hye
            exact absurd ((hord e o2 ho2 hE).2 he) (hlo e g (by show (kAt e).isEff = true; rw [kx hy]; exact hye))
          · exact g
        have noeff : ∀ e y, e = r → u[e]? = some y → y.k.isEff = false := fun e y he hy => by
          subst he
          rw [hx] at hy; simp only [Option.some.injEq] at hy; subst hy
          exact hxe
        have hbq : b' ≤ (hAt u H' q).next ∧ b' ≤ (hAt u H' r).next := by
          rcases hb' with ⟨rfl, _⟩ | ⟨e, y, he, hy, hye, rfl, _⟩
          · rw [← hH0]
            exact ⟨mono 0 q (by omega) hq, mono 0 r (by omega) (by omega)⟩
          · exact ⟨mono (e + 1) q (before e y he hy hye) hq, mono (e + 1) r (by omega) (by omega)⟩
        rw [e1, e2]
        refine hst' _ fun c hc => ?_
        rw [← e4]
        rcases Nat.le_total q r with g | g
        · exact (keep q r g (by omega) (fun e y h1 h2 h3 => by
            cases hh : y.k.isEff with
            | false => rfl
            | true => have := before e y h2 h3 hh; omega) c (by omega)).symm
        · exact keep r q g hq (fun e y h1 h2 h3 => by
            by_cases e0 : e = r
            · exact noeff e y e0 h3
            · cases hh : y.k.isEff with
              | false => rfl
              | true => have := after e y (by omega) h3 hh; omega) c (by omega) }
  have hend1 : tAt' u T' ops.size = T' := by simp only [tAt']; rw [List.getElem?_eq_none (by omega)]
  have hend2 : hAt u H' ops.size = H' := by simp only [hAt]; rw [List.getElem?_eq_none (by omega)]
  refine aw_draw hm R hT0 hH0 ?_
  show Q .normal (tAt' u T' ops.size) (hAt u H' ops.size)
  rw [hend1, hend2]; exact hQ

theorem flags_at {i : Nat} {o : Oper} (ho : ops[i]? = some o) : (ops.toList.map fun o => flagsOf (cop o))[i]? = some (flagsOf (cop o)) := by
  rw [List.getElem?_map]
  have : ops.toList[i]? = some o := by simpa using ho
  rw [this]; rfl

theorem quiet_draw (hm : P.follows .mixedOrders = true) (hok : regionOk N ops = true) (hst : statOk (ops.toList.map fun o => flagsOf (cop o)) (ancs ops.toList) = true)
    {T T' : Nat → AV} {H H' : AHeap} {u : List Full} {Q : Exit → (Nat → AV) → AHeap → Prop} {id : Nat} (htr : Tr P G ops ops.toList T H u T' H') (hb : BOk P G cop true H' ops.toList u H.next) (hQ : Q .normal T' H') : AW P G N (.region id ops true) Q T H := by
  refine gen_draw hm hok (fun i j o q hij ho hq hE h => statOk_spec hst hij (flags_at ho) (flags_at hq) ?_) (fun r x o hx ho hr => .inl fun e q hq hE => ⟨fun he => statOk_spec hst he (flags_at hq) (flags_at ho) ?_, fun he => statOk_spec hst he (flags_at ho) (flags_at hq) ?_⟩) htr hb hQ
  · rcases h with h | h <;> simp [flagsOf, hE, h]
  · have hR := ((BOk.at ops.toList u H.next r x o hb hx (by simpa using ho)).2.2 hr).1
    simp [flagsOf, hE, hR]
  · have hR := ((BOk.at ops.toList u H.next r x o hb hx (by simpa using ho)).2.2 hr).1
    simp [flagsOf, hE, hR]
end
end Go.Abs

/-
  A quick evaluator for closed calls: a region that draws its order and where a read is not in order with what writes: the read is looked at wherever it may stand.
-/

namespace Go.Abs
open Go

structure Snp where
  w : Bool
  T : ET
  H : FH
  v : AV

/-- Operations, one behind the other, with a record (the last first). -/
noncomputable def runM (ω : Om) (P : Program) (G : Nat → Option AV) (l : List FOper) : Nat → List Snp → ET → FH → (List Snp → ET → FH → Bool) → Bool :=
  List.rec (motive := fun _ => Nat → List Snp → ET → FH → (List Snp → ET → FH → Bool) → Bool) (fun _ s T H k => k s T H)
    (fun fo _ ih base s T H k => FOper.rec (motive := fun _ => Bool) (fun g d e f o =>
      guardK g T (f.run ω P G o base T H fun v H' => v.force fun v => putD d v T fun T' => ih (ifK e H'.next base) (⟨true, T, H, v⟩ :: s) T' H' k) (putD d undefA T fun T' => ih base (⟨false, T, H, undefA⟩ :: s) T' H k)) fo) l

structure SRel (cop : Oper → FOp) (ops : Array Oper) (o : Oper) (x : Full) (y : Snp) : Prop where
  T : y.T.fn = x.T
  H : y.H.abs = x.H
  v : y.v = x.v
  e : x.k.isEff = (y.w && (cop o).isE)
  r : x.k.isRead = true → y.w = true
  w : y.w = true → awanted ops x.T o = true

inductive SRels (cop : Oper → FOp) (ops : Array Oper) : List Oper → List Full → List Snp → Prop
  | nil : SRels cop ops [] [] []
  | cons {o : Oper} {x : Full} {y : Snp} {l : List Oper} {u : List Full} {s : List Snp} (h : SRel cop ops o x y) (t : SRels cop ops l u s) : SRels cop ops (o :: l) (x :: u) (y :: s)

section
variable {ω : Om} {P : Program} {G : Nat → Option AV} {N : Nat} {ops : Array Oper} {cop : Oper → FOp}

theorem SRels.length {l : List Oper} {u : List Full} {s : List Snp} (h : SRels cop ops l u s) : u.length = l.length ∧ s.length = l.length := by
  induction h with
  | nil => exact ⟨rfl, rfl⟩
  | cons _ _ ih => simp [ih.1, ih.2]
theorem SRels.at {l : List Oper} {u : List Full} {s : List Snp} (h : SRels cop ops l u s) : ∀ {i : Nat} {o : Oper} {x : Full}, l[i]? = some o → u[i]? = some x → ∃ y, s[i]? = some y ∧ SRel cop ops o x y := by
  induction h with
  | nil => intro i o x h; simp at h
  | cons h _ ih =>
    intro i o x ho hx
    cases i with
    | zero => simp at ho hx; subst ho; subst hx; exact ⟨_, rfl, h⟩
    | succ i => simpa using ih (by simpa using ho) (by simpa using hx)

theorem runM_inv (hω : CopOk P G ω ops cop) (hN : N ≤ 1024) : ∀ (l : List Oper) (base : Nat) (acc : List Snp) (T : ET) (H : FH) (k : List Snp → ET → FH → Bool), dstOk N l = true → runM ω P G (l.map (fcoper cop ops true)) base acc T H k = true →
    ∃ u s T' H', Tr P G ops l T.fn H.abs u T'.fn (FH.abs H') ∧ H.next ≤ H'.next ∧ BOk P G cop true H'.abs l u base ∧ SRels cop ops l u s ∧ k (s.reverse ++ acc) T' H' = true
  | [], base, acc, T, H, k, _, h => ⟨[], [], T, H, .nil, Nat.le_refl _, trivial, .nil, h⟩
  | o :: l, base, acc, T, H, k, hd, h => by
    have h : guardK (fcg ops o) T ((cop o).run ω P G o base T H fun v H' => v.force fun v => putD (fcd o) v T fun T' => runM ω P G (l.map (fcoper cop ops true)) (ifK (true && (cop o).isE) H'.next base) (⟨true, T, H, v⟩ :: acc) T' H' k)
        (putD (fcd o) undefA T fun T' => runM ω P G (l.map (fcoper cop ops true)) base (⟨false, T, H, undefA⟩ :: acc) T' H k) = true := h
    have hd0 : ∀ j, o.dst = some j → j < N := fun j hj => by
      unfold dstOk at hd
      rw [List.all_cons, Bool.and_eq_true] at hd
      have := hd.1
      rw [hj] at this
      simpa using this
    have hdr : dstOk N l = true := by
      unfold dstOk at hd ⊢
      rw [List.all_cons, Bool.and_eq_true] at hd
      exact hd.2
    rcases guardK_inv h with ⟨hw, h⟩ | ⟨hw, h⟩
    · obtain ⟨v, kd, H1, hs, hn, he, ha, hr0, hr, h⟩ := hω _ _ _ _ _ hw h
      have h := (AV.force_eq v _).symm.trans h
      obtain ⟨T1, hT1, h⟩ := putD_eq hN hd0 h
      obtain ⟨u, s, T', H', htr, hn', hb, hsr, hk⟩ := runM_inv hω hN l _ _ T1 H1 k hdr h
      refine ⟨⟨T.fn, H.abs, v, kd⟩ :: u, ⟨true, T, H, v⟩ :: s, T', H', .cons hs hn (by rw [← hT1]; exact htr), by omega, ⟨fun h => he ▸ h, ha, fun h => ⟨hr0 ▸ h, hr h⟩, ?_⟩, .cons ⟨rfl, rfl, rfl, by rw [he, Bool.true_and], fun _ => rfl, fun _ => hw⟩ hsr, by simpa using hk⟩
      have h0 : hAt u H'.abs 0 = H1.abs := (tr_spec htr).1
      rw [h0]
      rw [← he] at hb
      show BOk P G cop true H'.abs l u (if true = true ∧ kd.isEff = true then H1.next else base)
      cases hk : kd.isEff <;> rw [hk] at hb <;> exact hb
    · obtain ⟨T1, hT1, h⟩ := putD_eq hN hd0 h
      obtain ⟨u, s, T', H', htr, hn', hb, hsr, hk⟩ := runM_inv hω hN l _ _ T1 H k hdr h
      refine ⟨⟨T.fn, H.abs, undefA, .idle⟩ :: u, ⟨false, T, H, undefA⟩ :: s, T', H', .cons ⟨.inl ⟨hw, rfl⟩, rfl⟩ (Nat.le_refl _) (by rw [← hT1]; exact htr), hn', ⟨fun h => by simp [Kind.isEff] at h, fun h => by simp [Kind.isAlloc] at h, fun h => by simp [Kind.isRead] at h, ?_⟩,
        .cons ⟨rfl, rfl, rfl, rfl, fun h => by simp [Kind.isRead] at h, fun h => by simp at h⟩ hsr, by simpa using hk⟩
      rw [if_neg (by simp [Kind.isEff])]
      exact hb

/-- Of what writes alone. -/
def effOk (fs : List Flags) (as_ : List Nat) : Bool :=
  fs.zipIdx.all fun (y, j) => fs.zipIdx.all fun (x, i) => !decide (i < j) || !(y.e && (x.e || x.a)) || (as_.getD j 0).testBit i
theorem effOk_spec {fs : List Flags} (h : effOk fs (ancs ops.toList) = true) (hfs : fs = ops.toList.map fun o => flagsOf (cop o)) : EffOrd cop ops := by
  intro i j o q hij ho hq hE hc
  subst hfs
  unfold effOk at h
  rw [List.all_eq_true] at h
  have := h (_, j) (mem_zipIdx (flags_at hq))
  simp only [List.all_eq_true] at this
  have := this (_, i) (mem_zipIdx (flags_at ho))
  simp only [hij, decide_true, Bool.not_true, Bool.false_or] at this
  have e : ((flagsOf (cop q)).e && ((flagsOf (cop o)).e || (flagsOf (cop o)).a)) = true := by rcases hc with hc | hc <;> simp [flagsOf, hE, hc]
  rw [e] at this
  exact ancs_sound this

/-- The places of what writes. -/
def effPl (fs : List Flags) : List Nat := (fs.zipIdx.filter fun (x, _) => x.e).map (·.2)
def softAt (fs : List Flags) (as_ : List Nat) (r : Nat) : Bool := (effPl fs).all fun e => (!decide (e < r) || (as_.getD r 0).testBit e) && (!decide (r < e) || (as_.getD e 0).testBit r)
/-- The places of the reads that are not in order with all that writes. -/
def hardPl (fs : List Flags) (as_ : List Nat) : List Nat := ((fs.zipIdx.filter fun (x, _) => x.r).map (·.2)).filter fun r => !softAt fs as_ r

def heapS (s : List Snp) (H : FH) (q : Nat) : FH := match s[q]? with
  | some x => x.H
  | none => H
noncomputable def checkR (ω : Om) (P : Program) (G : Nat → Option AV) (cop : Oper → FOp) (ops : Array Oper) (es as_ : List Nat) (s : List Snp) (H : FH) (r : Nat) : Bool :=
  match ops[r]?, s[r]? with
  | some o, some x => !x.w || (0 :: es.map (· + 1)).all fun q =>
      (es.any fun e => decide (e < q) && ((match s[e]? with | some y => y.w | none => false) && (as_.getD e 0).testBit r)) || (es.any fun e => decide (q ≤ e) && ((match s[e]? with | some y => y.w | none => false) && (as_.getD r 0).testBit e)) ||
      (cop o).run ω P G o 1048576 x.T (heapS s H q) fun v _ => AV.beq v x.v
  | _, _ => false

theorem effPl_mem {fs : List Flags} {e : Nat} {x : Flags} (hx : fs[e]? = some x) (he : x.e = true) : e ∈ effPl fs := by
  unfold effPl
  rw [List.mem_map]
  exact ⟨(x, e), by rw [List.mem_filter]; exact ⟨mem_zipIdx hx, he⟩, rfl⟩
theorem effPl_of {fs : List Flags} {e : Nat} (h : e ∈ effPl fs) : ∃ x, fs[e]? = some x ∧ x.e = true := by
  unfold effPl at h
  rw [List.mem_map] at h
  obtain ⟨⟨x, i⟩, h1, rfl⟩ := h
  rw [List.mem_filter] at h1
  exact ⟨x, List.mem_zipIdx_iff_getElem?.1 h1.1, h1.2⟩

theorem checked_draw (hm : P.follows .mixedOrders = true) (hω : CopOk P G ω ops cop) (hok : regionOk N ops = true) (fs : List Flags) (hfs : fs = ops.toList.map fun o => flagsOf (cop o)) (heff : effOk fs (ancs ops.toList) = true)
    {T T' : Nat → AV} {H : AHeap} {H' : FH} {u : List Full} {s : List Snp} {Q : Exit → (Nat → AV) → AHeap → Prop} {id : Nat} (htr : Tr P G ops ops.toList T H u T' H'.abs) (hb : BOk P G cop true H'.abs ops.toList u H.next) (hsr : SRels cop ops ops.toList u s)
    (hck : (hardPl fs (ancs ops.toList)).all (checkR ω P G cop ops (effPl fs) (ancs ops.toList) s H') = true) (hQ : Q .normal T' H'.abs) : AW P G N (.region id ops true) Q T H := by
  refine gen_draw hm hok (effOk_spec heff hfs) (fun r x o hx ho hr => ?_) htr hb hQ
  have hol : ops.toList[r]? = some o := by simpa using ho
  have hR := ((BOk.at ops.toList u H.next r x o hb hx hol).2.2 hr).1
  have hfr : fs[r]? = some (flagsOf (cop o)) := by rw [hfs]; exact flags_at ho
  cases hsoft : softAt fs (ancs ops.toList) r with
  | true =>
    refine .inl fun e q hq hE => ?_
    unfold softAt at hsoft
    rw [List.all_eq_true] at hsoft
    have hfe : fs[e]? = some (flagsOf (cop q)) := by rw [hfs]; exact flags_at hq
    have := hsoft e (effPl_mem hfe hE)
    simp only [Bool.and_eq_true, Bool.or_eq_true, Bool.not_eq_true', decide_eq_false_iff_not] at this
    exact ⟨fun he => ancs_sound (this.1.resolve_left fun h => h he), fun he => ancs_sound (this.2.resolve_left fun h => h he)⟩
  | false =>
    refine .inr fun q hq hq0 hlo hhi => ?_
    have hmem : r ∈ hardPl fs (ancs ops.toList) := by
      unfold hardPl
      rw [List.mem_filter, List.mem_map]
      exact ⟨⟨(flagsOf (cop o), r), by rw [List.mem_filter]; exact ⟨mem_zipIdx hfr, hR⟩, rfl⟩, by simp [hsoft]⟩
    rw [List.all_eq_true] at hck
    have hc := hck r hmem
    obtain ⟨y, hy, hs⟩ := hsr.at hol hx
    unfold checkR at hc
    simp only [ho, hy] at hc
    have hw := hs.r hr
    rw [hw] at hc
    simp only [Bool.not_true, Bool.false_or] at hc
    rw [List.all_eq_true] at hc
    have eff_of : ∀ e y', u[e]? = some y' → y'.k.isEff = true → e ∈ effPl fs ∧ ∃ z, s[e]? = some z ∧ z.w = true := fun e y' hy' hye => by
      have hlt : e < ops.size := by
        have := hsr.length.1
        rcases Nat.lt_or_ge e u.length with g | g
        · simp at this; omega
        · rw [List.getElem?_eq_none g] at hy'; simp at hy'
      obtain ⟨o2, ho2⟩ := get_of hlt
      obtain ⟨z, hz, hzs⟩ := hsr.at (by simpa using ho2) hy'
      have hE := (BOk.at ops.toList u H.next e y' o2 hb hy' (by simpa using ho2)).1 hye
      refine ⟨effPl_mem (x := flagsOf (cop o2)) (by rw [hfs]; exact flags_at ho2) hE, z, hz, ?_⟩
      have := hzs.e
      rw [hye] at this
      cases hzw : z.w
      · rw [hzw] at this; simp at this
      · rfl
    have hqm : q ∈ (0 :: (effPl fs).map (· + 1)) := by
      rcases hq0 with rfl | ⟨e, y', rfl, hy', hye⟩
      · simp
      · exact List.mem_cons_of_mem _ (List.mem_map.2 ⟨e, (eff_of e y' hy' hye).1, rfl⟩)
    have hcq := hc q hqm
    have isEff_of : ∀ e, e ∈ effPl fs → (match s[e]? with | some y => y.w | none => false) = true → ∃ y', u[e]? = some y' ∧ y'.k.isEff = true := fun e he hwe => by
      obtain ⟨f, hf, hfe⟩ := effPl_of he
      cases hse : s[e]? with
      | none => rw [hse] at hwe; simp at hwe
      | some z =>
        rw [hse] at hwe
        have hlt : e < ops.size := by
          have := hsr.length.2
          rcases Nat.lt_or_ge e s.length with g | g
          · simp at this; omega
          · rw [List.getElem?_eq_none g] at hse; simp at hse
        obtain ⟨o2, ho2⟩ := get_of hlt
        have hul : e < u.length := by have := hsr.length.1; simp at this; omega
        obtain ⟨z', hz', hzs⟩ := hsr.at (i := e) (by simpa using ho2) (List.getElem?_eq_getElem hul)
        rw [hse] at hz'; simp only [Option.some.injEq] at hz'; subst hz'
        refine ⟨_, List.getElem?_eq_getElem hul, ?_⟩
        rw [hzs.e]
        have : (cop o2).isE = true := by
          rw [hfs, flags_at ho2] at hf
          simp only [Option.some.injEq] at hf
          rw [← hf] at hfe; exact hfe
        simp only at hwe
        rw [hwe, this]; rfl
    simp only [Bool.or_eq_true, List.any_eq_true, Bool.and_eq_true, decide_eq_true_eq] at hcq
    rcases hcq with (⟨e, he, h5, h6, h7⟩ | ⟨e, he, h5, h6, h7⟩) | h5
    · obtain ⟨y', hy', hye⟩ := isEff_of e he h6
      exact absurd (ancs_sound h7) (hlo e y' h5 hy' hye)
    · obtain ⟨y', hy', hye⟩ := isEff_of e he h6
      exact absurd (ancs_sound h7) (hhi e y' h5 hy' hye)
    · have hwn : awanted ops y.T.fn o = true := by rw [hs.T]; exact hs.w hw
      obtain ⟨v, kd, H1, _, _, _, _, hr0, hr1, hk⟩ := hω o y.T (heapS s H' q) _ _ hwn h5
      have hkr : kd.isRead = true := by rw [hr0]; exact hR
      have := hr1 hkr (heapS s H' q).abs.get (fun _ _ => rfl)
      have hv : v = y.v := AV.beq_eq _ _ hk
      have hH : (heapS s H' q).abs = hAt u H'.abs q := by
        unfold heapS hAt
        rcases Nat.lt_or_ge q ops.size with g | g
        · obtain ⟨o2, ho2⟩ := get_of g
          have hul : q < u.length := by have := hsr.length.1; simp at this; omega
          obtain ⟨z, hz, hzs⟩ := hsr.at (i := q) (by simpa using ho2) (List.getElem?_eq_getElem hul)
          rw [hz, List.getElem?_eq_getElem hul]
          exact hzs.H
        · rw [List.getElem?_eq_none (by have := hsr.length.2; simp at this; omega), List.getElem?_eq_none (by have := hsr.length.1; simp at this; omega)]
      rw [← hH, ← hs.T, ← hs.v, ← hv]
      exact this
end
end Go.Abs

/-
  A quick evaluator for closed calls, ninth part: code, calls, and closed statements.
-/


namespace Go.Abs
open Go

abbrev KC := ET → FH → Bool

def regOk (P : Program) (G : Nat → Option AV) (N : Nat) (ops : Array Oper) : Bool := regionOk N ops && statOk (ops.toList.map fun o => flagsOf (fcop P G o)) (ancs ops.toList)

def regOkZ (P : Program) (G : Nat → Option AV) (N : Nat) (ops : Array Oper) : Bool := regionOk N ops && effOk (ops.toList.map fun o => flagsOf (fcopZ P G o)) (ancs ops.toList)

def regOkM (P : Program) (G : Nat → Option AV) (N : Nat) (ops : Array Oper) : Bool := regionOk N ops && effOk (ops.toList.map fun o => flagsOf (fcop P G o)) (ancs ops.toList)

/-- A piece of code: what comes behind it, at a return, at a way out. -/
noncomputable def fexec (ω : Om) (P : Program) (G : Nat → Option AV) (N n : Nat) (c : Code) : KC → KC → (Nat → KC) → ET → FH → Bool :=
  Code.rec (motive := fun _ => KC → KC → (Nat → KC) → ET → FH → Bool)
    (fun kn _ _ T H => kn T H)
    (fun _ ops d kn _ _ T H => ifK d
      (ifK (regOk P G N ops) (runL ω P G (ops.toList.map (fcoper (fcop P G) ops true)) H.next T H kn)
        (ifK (regOkM P G N ops) (runM ω P G (ops.toList.map (fcoper (fcop P G) ops true)) H.next [] T H fun s T H' =>
          ifK ((hardPl (ops.toList.map fun o => flagsOf (fcop P G o)) (ancs ops.toList)).all (checkR ω P G (fcop P G) ops (effPl (ops.toList.map fun o => flagsOf (fcop P G o))) (ancs ops.toList) s.reverse H')) (kn T H') false)
          (ifK (regOkZ P G N ops) (runM ω P G (ops.toList.map (fcoper (fcopZ P G) ops true)) H.next [] T H fun s T H' =>
          ifK ((hardPl (ops.toList.map fun o => flagsOf (fcopZ P G o)) (ancs ops.toList)).all (checkR ω P G (fcopZ P G) ops (effPl (ops.toList.map fun o => flagsOf (fcopZ P G o))) (ancs ops.toList) s.reverse H')) (kn T H') false) false)))
      (ifK (dstOk N ops.toList) (runL ω P G (ops.toList.map (fcoper (fcop P G) ops false)) 1048576 T H kn) false))
    (fun _ _ iha ihb kn kr ke T H => iha (fun T H => ihb kn kr ke T H) kr ke T H)
    (fun x _ _ iha ihb kn kr ke T H => optK (fx G x) fun y => (y.get T).onBool false fun b => ifK b (iha kn kr ke T H) (ihb kn kr ke T H))
    (fun id _ ih kn kr ke T H => ih kn kr (fun i => ifK (Nat.beq i id) kn (ke i)) T H)
    (fun _ ih _ kr ke T H => Nat.rec (motive := fun _ => ET → FH → Bool) (fun _ _ => false) (fun _ lp T H => ih lp kr ke T H) n T H)
    (fun _ _ _ _ _ _ _ _ _ _ _ => false)
    (fun id _ _ ke T H => ke id T H)
    (fun _ _ _ _ _ _ _ => false)
    (fun _ _ _ _ _ _ => false)
    (fun _ _ _ _ _ _ => false)
    (fun _ kr _ T H => kr T H)
    (fun _ _ _ _ _ _ => false) c

def contOf (kn kr : KC) (ke : Nat → KC) : Exit → KC
  | .normal => kn
  | .ret => kr
  | .exit i => ke i
  | _ => fun _ _ => false

noncomputable def resK (P : Program) (G : Nat → Option AV) (rs : List ResultVar) (T : ET) (H : FH) : (List AV → Bool) → Bool :=
  List.rec (motive := fun _ => (List AV → Bool) → Bool) (fun k => k [])
    (fun r _ ih k => ResultVar.rec (motive := fun _ => Bool)
      (fun t => optK (fx G (.tmp t)) fun x => ih fun vs => k (x.get T :: vs))
      (fun a t => optK (fx G (.tmp a)) fun x => optK (aagg P t) fun g => optK (asize P t) fun n => loadK 1048576 g n (x.get T) H fun v _ => v.force fun v => ih fun vs => k (v :: vs)) r) rs

noncomputable def oneK (vs : List AV) (k : AV → Bool) : Bool := List.rec (motive := fun _ => Bool) (k (.tuple [])) (fun a r _ => List.rec (motive := fun _ => Bool) (k a) (fun _ _ _ => k (.tuple vs)) r) vs

noncomputable def initK (vs : List AV) : Nat → ET → (ET → Bool) → Bool :=
  List.rec (motive := fun _ => Nat → ET → (ET → Bool) → Bool) (fun _ T k => k T) (fun v _ ih i T k => ET.put (P32.of (Nat.div i 32)) (P32.of (Nat.mod i 32)) v T fun T => natK (Nat.add i 1) fun i => ih i T k) vs

abbrev Ov := FuncId → Option (List AV → FH → (AV → FH → Bool) → Bool)

/-- A call; ov: functions that are known otherwise. -/
noncomputable def fcall (ov : Ov) (P : Program) (G : Nat → Option AV) (fuel n : Nat) : Om :=
  Nat.rec (motive := fun _ => Om) (fun _ _ _ _ => false) (fun _ ih f args H k =>
    Option.rec (motive := fun _ => Bool)
      (optK (P.funcs[f]?) fun fn => optK fn.body fun c => ifK (Nat.ble (lenN args) fn.ntmps) (ifK (Nat.ble fn.ntmps 1024)
        (initK args 0 ET.none fun T =>
          fexec ih P G fn.ntmps fuel c (fun T H => resK P G fn.results.toList T H fun vs => oneK vs fun v => k v H) (fun T H => resK P G fn.results.toList T H fun vs => oneK vs fun v => k v H) (fun _ _ _ => false) T H) false) false)
      (fun g => g args H k) (ov f)) n

section
variable {ω : Om} {P : Program} {G : Nat → Option AV} {N : Nat}

theorem fexec_sound (hm : P.follows .mixedOrders = true) (hω : GoodK P G ω) (hN : N ≤ 1024) (n : Nat) : ∀ (c : Code) (kn kr : KC) (ke : Nat → KC) (T : ET) (H : FH), fexec ω P G N n c kn kr ke T H = true →
    ∃ e T' H', (∀ Q : Exit → (Nat → AV) → AHeap → Prop, Q e (ET.fn T') (FH.abs H') → AW P G N c Q T.fn H.abs) ∧ H.next ≤ H'.next ∧ contOf kn kr ke e T' H' = true := by
  intro c
  induction c with
  | skip => exact fun kn kr ke T H h => ⟨.normal, T, H, fun Q hQ => aw_skip hQ, Nat.le_refl _, h⟩
  | region id ops d =>
    intro kn kr ke T H h
    cases d with
    | true =>
      have h : ifK (regOk P G N ops) (runL ω P G (ops.toList.map (fcoper (fcop P G) ops true)) H.next T H kn)
        (ifK (regOkM P G N ops) (runM ω P G (ops.toList.map (fcoper (fcop P G) ops true)) H.next [] T H fun s T H' =>
          ifK ((hardPl (ops.toList.map fun o => flagsOf (fcop P G o)) (ancs ops.toList)).all (checkR ω P G (fcop P G) ops (effPl (ops.toList.map fun o => flagsOf (fcop P G o))) (ancs ops.toList) s.reverse H')) (kn T H') false)
          (ifK (regOkZ P G N ops) (runM ω P G (ops.toList.map (fcoper (fcopZ P G) ops true)) H.next [] T H fun s T H' =>
          ifK ((hardPl (ops.toList.map fun o => flagsOf (fcopZ P G o)) (ancs ops.toList)).all (checkR ω P G (fcopZ P G) ops (effPl (ops.toList.map fun o => flagsOf (fcopZ P G o))) (ancs ops.toList) s.reverse H')) (kn T H') false) false)) = true := h
      cases hrg : regOk P G N ops with
      | true =>
        rw [hrg, ifK_true] at h
        simp only [regOk, Bool.and_eq_true] at hrg
        have hd : dstOk N ops.toList = true := by
          have := hrg.1
          simp only [regionOk, Bool.and_eq_true] at this
          exact this.2
        obtain ⟨u, T', H', htr, hn, hb, hk⟩ := runL_inv (copOk hω) hN true ops.toList _ T H kn hd h
        exact ⟨.normal, T', H', fun Q hQ => quiet_draw hm hrg.1 hrg.2 htr hb hQ, hn, hk⟩
      | false =>
        rw [hrg, ifK_false] at h
        cases hrm : regOkM P G N ops with
        | true =>
          rw [hrm, ifK_true] at h
          have h1 := hrm
          simp only [regOkM, Bool.and_eq_true] at h1
          have hd : dstOk N ops.toList = true := by
            have := h1.1
            simp only [regionOk, Bool.and_eq_true] at this
            exact this.2
          obtain ⟨u, s, T', H', htr, hn, hb, hsr, hk⟩ := runM_inv (copOk hω) hN ops.toList _ [] T H _ hd h
          obtain ⟨h2, h3⟩ := ifK_inv hk
          simp only [List.append_nil, List.reverse_reverse] at h2
          exact ⟨.normal, T', H', fun Q hQ => checked_draw hm (copOk hω) h1.1 _ rfl h1.2 htr hb hsr h2 hQ, hn, h3⟩
        | false =>
          rw [hrm, ifK_false] at h
          obtain ⟨h1, h⟩ := ifK_inv h
          simp only [regOkZ, Bool.and_eq_true] at h1
          have hd : dstOk N ops.toList = true := by
            have := h1.1
            simp only [regionOk, Bool.and_eq_true] at this
            exact this.2
          obtain ⟨u, s, T', H', htr, hn, hb, hsr, hk⟩ := runM_inv (copZOk hω) hN ops.toList _ [] T H _ hd h
          obtain ⟨h2, h3⟩ := ifK_inv hk
          simp only [List.append_nil, List.reverse_reverse] at h2
          exact ⟨.normal, T', H', fun Q hQ => checked_draw hm (copZOk hω) h1.1 _ rfl h1.2 htr hb hsr h2 hQ, hn, h3⟩
    | false =>
      have h : ifK (dstOk N ops.toList) (runL ω P G (ops.toList.map (fcoper (fcop P G) ops false)) 1048576 T H kn) false = true := h
      obtain ⟨h1, h⟩ := ifK_inv h
      obtain ⟨u, T', H', htr, hn, hb, hk⟩ := runL_inv (copOk hω) hN false ops.toList _ T H kn h1 h
      exact ⟨.normal, T', H', fun Q hQ => aw_region (tr_al htr h1 hQ), hn, hk⟩
  | seq a b iha ihb =>
    intro kn kr ke T H h
    obtain ⟨e, T1, H1, h1, h2, h3⟩ := iha (fun T H => fexec ω P G N n b kn kr ke T H) kr ke T H h
    cases e with
    | normal =>
      obtain ⟨e', T2, H2, g1, g2, g3⟩ := ihb kn kr ke T1 H1 h3
      exact ⟨e', T2, H2, fun Q hQ => aw_seq (h1 (QThen (fun T H => AW P G N b Q T H) Q) (g1 Q hQ)), by omega, g3⟩
    | exit i => exact ⟨.exit i, T1, H1, fun Q hQ => aw_seq (h1 (QThen (fun T H => AW P G N b Q T H) Q) hQ), h2, h3⟩
    | ret => exact ⟨.ret, T1, H1, fun Q hQ => aw_seq (h1 (QThen (fun T H => AW P G N b Q T H) Q) hQ), h2, h3⟩
    | goto _ => simp [contOf] at h3
    | panic _ => simp [contOf] at h3
    | outgrown => simp [contOf] at h3
  | cond x a b iha ihb =>
    intro kn kr ke T H h
    obtain ⟨y, hy, h⟩ := optK_inv (show optK (fx G x) (fun y => (y.get T).onBool false fun b' => ifK b' (fexec ω P G N n a kn kr ke T H) (fexec ω P G N n b kn kr ke T H)) = true from h)
    rcases AV.onBool_inv h with ⟨t, ht, h⟩ | ⟨h, _⟩
    · have hx : aval G T.fn x = some (.bool t) := by rw [fx_eq hy, ht]
      cases t with
      | true =>
        obtain ⟨e, T1, H1, h1, h2, h3⟩ := iha kn kr ke T H h
        exact ⟨e, T1, H1, fun Q hQ => aw_cond hx (h1 Q hQ), h2, h3⟩
      | false =>
        obtain ⟨e, T1, H1, h1, h2, h3⟩ := ihb kn kr ke T H h
        exact ⟨e, T1, H1, fun Q hQ => aw_cond hx (h1 Q hQ), h2, h3⟩
    · simp at h
  | block id c ih =>
    intro kn kr ke T H h
    obtain ⟨e, T1, H1, h1, h2, h3⟩ := ih kn kr (fun i => ifK (Nat.beq i id) kn (ke i)) T H h
    cases e with
    | exit i =>
      have h3 : ifK (Nat.beq i id) kn (ke i) T1 H1 = true := h3
      cases hb : Nat.beq i id with
      | true =>
        rw [hb] at h3
        have hid : i = id := by simpa using hb
        exact ⟨.normal, T1, H1, fun Q hQ => aw_block (h1 (QBlock id Q) (by simp only [QBlock]; rw [if_pos hid]; exact hQ)), h2, h3⟩
      | false =>
        rw [hb] at h3
        have hid : ¬ i = id := fun e => by subst e; simp at hb
        exact ⟨.exit i, T1, H1, fun Q hQ => aw_block (h1 (QBlock id Q) (by simp only [QBlock]; rw [if_neg hid]; exact hQ)), h2, h3⟩
    | normal => exact ⟨.normal, T1, H1, fun Q hQ => aw_block (h1 (QBlock id Q) hQ), h2, h3⟩
    | ret => exact ⟨.ret, T1, H1, fun Q hQ => aw_block (h1 (QBlock id Q) hQ), h2, h3⟩
    | goto _ => simp [contOf] at h3
    | panic _ => simp [contOf] at h3
    | outgrown => simp [contOf] at h3
  | loop c ih =>
    intro kn kr ke T H h
    have key : ∀ (m : Nat) (T : ET) (H : FH), Nat.rec (motive := fun _ => ET → FH → Bool) (fun _ _ => false) (fun _ lp T H => fexec ω P G N n c lp kr ke T H) m T H = true →
        ∃ e T' H', e ≠ Exit.normal ∧ H.next ≤ H'.next ∧ contOf kn kr ke e T' H' = true ∧
          ∀ (Q : Exit → (Nat → AV) → AHeap → Prop) (E0 : Env) (a : Act) (w : World) b k cs, Q e (ET.fn T') (FH.abs H') → GRel E0 G → St E0 N T.fn H.abs a w →
            ∃ e a' w', lift Q E0 N e a' w' ∧ Arrives P (lone (b.at a (.code c :: .inLoop c :: k)) cs w) b k cs e a' w' := by
      intro m
      induction m with
      | zero => intro T H h; simp at h
      | succ m ihm =>
        intro T H h
        obtain ⟨e, T1, H1, h1, h2, h3⟩ := ih _ kr ke T H h
        have pass : e ≠ .normal → contOf kn kr ke e T1 H1 = true → (∀ i, e ≠ .goto i) → ∃ e T' H', e ≠ Exit.normal ∧ H.next ≤ H'.next ∧ contOf kn kr ke e T' H' = true ∧
          ∀ (Q : Exit → (Nat → AV) → AHeap → Prop) (E0 : Env) (a : Act) (w : World) b k cs, Q e (ET.fn T') (FH.abs H') → GRel E0 G → St E0 N T.fn H.abs a w →
            ∃ e a' w', lift Q E0 N e a' w' ∧ Arrives P (lone (b.at a (.code c :: .inLoop c :: k)) cs w) b k cs e a' w' := by
          intro hne hk hng
          refine ⟨e, T1, H1, hne, h2, hk, fun Q E0 a w b k cs hQ hG hs => ?_⟩
          obtain ⟨e2, a1, w1, ⟨T2, H2, ⟨rfl, rfl, rfl⟩, s⟩, harr⟩ := h1 (fun e' T' H' => e' = e ∧ T' = T1.fn ∧ H' = H1.abs) ⟨rfl, rfl, rfl⟩ E0 a w hG hs b (.inLoop c :: k) cs
          cases e2 with
          | normal => exact absurd rfl hne
          | exit i => exact ⟨_, a1, w1, ⟨_, _, hQ, s⟩, .pass (x := .inLoop c) rfl (fun _ _ => .inl (by simp)) harr⟩
          | ret => exact ⟨_, a1, w1, ⟨_, _, hQ, s⟩, .pass (x := .inLoop c) rfl (fun _ _ => .inl (by simp)) harr⟩
          | goto l => exact absurd rfl (hng l)
          | panic _ => exact ⟨_, a1, w1, ⟨_, _, hQ, s⟩, .pass (x := .inLoop c) rfl (fun _ _ => .inl (by simp)) harr⟩
          | outgrown => exact ⟨_, a1, w1, ⟨_, _, hQ, s⟩, .pass (x := .inLoop c) rfl (fun _ _ => .inl (by simp)) harr⟩
        cases e with
        | normal =>
          obtain ⟨e2, T2, H2, g1, g2, g3, g4⟩ := ihm T1 H1 h3
          refine ⟨e2, T2, H2, g1, by omega, g3, fun Q E0 a w b k cs hQ hG hs => ?_⟩
          obtain ⟨e3, a1, w1, ⟨T3, H3, ⟨rfl, rfl, rfl⟩, s⟩, harr⟩ := h1 (fun e' T' H' => e' = .normal ∧ T' = T1.fn ∧ H' = H1.abs) ⟨rfl, rfl, rfl⟩ E0 a w hG hs b (.inLoop c :: k) cs
          obtain ⟨e4, a2, w2, q2, harr2⟩ := g4 Q E0 a1 w1 b k cs hQ hG s
          exact ⟨e4, a2, w2, q2, .of_steps (Steps.trans harr (.one step_inLoop)) harr2⟩
        | exit i => exact pass (by simp) h3 (by simp)
        | ret => exact pass (by simp) h3 (by simp)
        | goto _ => simp [contOf] at h3
        | panic _ => simp [contOf] at h3
        | outgrown => simp [contOf] at h3
    obtain ⟨e, T', H', h1, h2, h3, h4⟩ := key n T H h
    refine ⟨e, T', H', fun Q hQ E0 a w hG hs b k cs => ?_, h2, h3⟩
    obtain ⟨e2, a', w', hq, harr⟩ := h4 Q E0 a w b k cs hQ hG hs
    exact ⟨e2, a', w', hq, .of_steps (.one step_loop) harr⟩
  | exit id => exact fun kn kr ke T H h => ⟨.exit id, T, H, fun Q hQ => aw_exit hQ, Nat.le_refl _, h⟩
  | ret => exact fun kn kr ke T H h => ⟨.ret, T, H, fun Q hQ => aw_ret hQ, Nat.le_refl _, h⟩
  | rangeFunc _ _ _ _ _ _ => intro kn kr ke T H h; have h : false = true := h; simp at h
  | scope _ _ => intro kn kr ke T H h; have h : false = true := h; simp at h
  | label _ => intro kn kr ke T H h; have h : false = true := h; simp at h
  | goto _ => intro kn kr ke T H h; have h : false = true := h; simp at h
  | refuse _ => intro kn kr ke T H h; have h : false = true := h; simp at h

theorem loadK_inv {g : Bool} {n : Nat} {a : AV} {t : TypeId} {H : FH} {k : AV → FH → Bool} (hg : aagg P t = some g) (hn : asize P t = some n) (h : loadK 1048576 g n a H k = true) :
    ∃ cs v, aat H.abs.get a = some cs ∧ acut P t cs = some v ∧ k v H = true := by
  rcases AV.onPtr_inv h with ⟨i, off, rfl, h⟩ | ⟨cs, rfl, h⟩
  · obtain ⟨h1, h'⟩ := ifK_inv h
    obtain ⟨b, hb, h', _⟩ := FH.atK_inv h'
    have hb : H.abs.get i = some (.cells b.list) := hb
    cases g with
    | true =>
      obtain ⟨h2, h3⟩ := FObj.cutK_inv (show b.cutK off n (fun l => k (.agg l) H) false = true from h')
      refine ⟨b.list.drop off, .agg ((b.list.drop off).take n), by simp only [aat, hb]; rw [if_pos (by omega)], ?_, h3⟩
      simp only [acut, hg, hn]
      rw [if_pos (by simp; omega)]
    | false =>
      obtain ⟨v, h2, h3⟩ := FObj.cellK_inv (show b.cellK off (fun v => k v H) false = true from h')
      have hlt : off < b.list.length := by
        rcases Nat.lt_or_ge off b.list.length with g | g
        · exact g
        · rw [List.getElem?_eq_none g] at h2; simp at h2
      refine ⟨b.list.drop off, v, by simp only [aat, hb]; rw [if_pos (by omega)], ?_, h3⟩
      simp only [acut, hg, hn]
      rw [List.getElem?_drop, Nat.add_zero]; exact h2
  · cases g with
    | true =>
      have h' : takeK cs n (fun l => k (.agg l) H) false = true := h
      rw [takeK_eq] at h'
      split at h' <;> try (simp at h'; done)
      rename_i h2
      exact ⟨cs, .agg (cs.take n), rfl, by simp only [acut, hg, hn, if_pos h2], h'⟩
    | false =>
      have h' : nthK cs 0 (fun v => k v H) false = true := h
      rw [nthK_eq] at h'
      split at h' <;> try (simp at h'; done)
      rename_i v hc
      exact ⟨cs, v, rfl, by simp only [acut, hg, hn, hc], h'⟩

theorem resK_inv {T : ET} {H : FH} : ∀ {rs : List ResultVar} {k : List AV → Bool}, resK P G rs T H k = true → ∃ vs, aresults P T.fn H.abs.get rs = some vs ∧ k vs = true
  | [], k, h => ⟨[], rfl, h⟩
  | .tmp t :: rs, k, h => by
    obtain ⟨x, hx, h⟩ := optK_inv (show optK (fx G (.tmp t)) (fun x => resK P G rs T H fun vs => k (x.get T :: vs)) = true from h)
    obtain ⟨vs, h1, h2⟩ := resK_inv h
    have hv : some (T.fn t) = some (x.get T) := fx_eq (G := G) (x := .tmp t) hx
    simp only [Option.some.injEq] at hv
    exact ⟨x.get T :: vs, by simp only [aresults, aresult, h1, hv], h2⟩
  | .cell a t :: rs, k, h => by
    obtain ⟨x, hx, h⟩ := optK_inv (show optK (fx G (.tmp a)) (fun x => optK (aagg P t) fun g => optK (asize P t) fun n => loadK 1048576 g n (x.get T) H fun v _ => v.force fun v => resK P G rs T H fun vs => k (v :: vs)) = true from h)
    obtain ⟨g, hg, h⟩ := optK_inv h
    obtain ⟨n, hn, h⟩ := optK_inv h
    obtain ⟨cs, v, h1, h2, h⟩ := loadK_inv hg hn h
    have h := (AV.force_eq v (fun v => resK P G rs T H fun vs => k (v :: vs))).symm.trans h
    obtain ⟨vs, h3, h4⟩ := resK_inv h
    have hv : some (T.fn a) = some (x.get T) := fx_eq (G := G) (x := .tmp a) hx
    simp only [Option.some.injEq] at hv
    exact ⟨v :: vs, by simp only [aresults, aresult, hv, h1, h2, h3], h4⟩

theorem oneK_inv {T : Nat → AV} {get : Nat → Option AObj} {rs : List ResultVar} {vs : List AV} {k : AV → Bool} (hv : aresults P T get rs = some vs) (h : oneK vs k = true) : ∃ r, ares P T get rs = some r ∧ k r = true := by
  match vs with
  | [] => exact ⟨.tuple [], by simp only [ares, hv], h⟩
  | [a] => exact ⟨a, by simp only [ares, hv], h⟩
  | a :: b :: r => exact ⟨.tuple (a :: b :: r), by simp only [ares, hv], h⟩

theorem initK_inv : ∀ (vs : List AV) (i : Nat) (T : ET) (k : ET → Bool), i + vs.length ≤ 1024 → initK vs i T k = true → ∃ T' : ET, (T'.fn = fun t => if i ≤ t then (match vs[t - i]? with | some v => v | none => T.fn t) else T.fn t) ∧ k T' = true
  | [], i, T, k, _, h => ⟨T, by funext t; simp, h⟩
  | v :: vs, i, T, k, hl, h => by
    simp only [List.length_cons] at hl
    have h : ET.put (P32.of (Nat.div i 32)) (P32.of (Nat.mod i 32)) v T (fun T => natK (Nat.add i 1) fun i => initK vs i T k) = true := h
    rw [ET.put_eq, natK_eq] at h
    obtain ⟨T', h1, h2⟩ := initK_inv vs (i + 1) _ k (by omega) h
    refine ⟨T', ?_, h2⟩
    rw [h1]
    have e : ET.fn (ET.set T (P32.of (Nat.div i 32)) (P32.of (Nat.mod i 32)) v) = tput T.fn (some i) v := ET.fn_set T i v (by omega)
    rw [e]
    funext t
    by_cases h3 : i + 1 ≤ t
    · have hp : tput T.fn (some i) v t = T.fn t := by simp only [tput]; rw [if_neg (by omega)]
      rw [if_pos h3, if_pos (by omega), hp]
      have : t - i = (t - (i + 1)) + 1 := by omega
      rw [this, List.getElem?_cons_succ]
    · rw [if_neg h3]
      simp only [tput]
      by_cases h4 : t = i
      · subst h4; simp
      · rw [if_neg h4, if_neg (by omega)]

def OvGoodK (P : Program) (G : Nat → Option AV) (ov : Ov) : Prop :=
  ∀ f g, ov f = some g → ∀ args H k, g args H k = true → ∃ v H', Does P G f args H.abs (fun r h => r = v ∧ h = FH.abs H') ∧ H.next ≤ H'.next ∧ k v H' = true

theorem fcall_sound {ov : Ov} {fuel : Nat} (hm : P.follows .mixedOrders = true) (hp : plainFn P = true) (hov : OvGoodK P G ov) : ∀ n, GoodK P G (fcall ov P G fuel n)
  | 0 => fun f args H k h => by have h : false = true := h; simp at h
  | n + 1 => fun f args H k h => by
    have ih := fcall_sound (fuel := fuel) hm hp hov n
    have h : Option.rec (motive := fun _ => Bool)
      (optK (P.funcs[f]?) fun fn => optK fn.body fun c => ifK (Nat.ble (lenN args) fn.ntmps) (ifK (Nat.ble fn.ntmps 1024)
        (initK args 0 ET.none fun T =>
          fexec (fcall ov P G fuel n) P G fn.ntmps fuel c (fun T H => resK P G fn.results.toList T H fun vs => oneK vs fun v => k v H) (fun T H => resK P G fn.results.toList T H fun vs => oneK vs fun v => k v H) (fun _ _ _ => false) T H) false) false)
      (fun g => g args H k) (ov f) = true := h
    cases ho : ov f with
    | some g => rw [ho] at h; exact hov f g ho args H k h
    | none =>
      rw [ho] at h
      obtain ⟨fn, hf, h⟩ := optK_inv h
      obtain ⟨c, hb, h⟩ := optK_inv h
      obtain ⟨h1, h⟩ := ifK_inv h
      obtain ⟨h2, h⟩ := ifK_inv h
      have h1 : lenN args ≤ fn.ntmps := Nat.le_of_ble_eq_true h1
      rw [lenN_eq] at h1
      have h2 : fn.ntmps ≤ 1024 := Nat.le_of_ble_eq_true h2
      obtain ⟨T, hT, h⟩ := initK_inv args 0 ET.none _ (by omega) h
      obtain ⟨e, T', H', g1, g2, g3⟩ := fexec_sound hm ih h2 fuel c _ _ _ T H h
      have hT0 : T.fn = fun t => args.getD t undefA := by
        rw [hT]
        funext t
        rw [if_pos (Nat.zero_le _), Nat.sub_zero, ET.fn_none, List.getD]
        cases args[t]? <;> rfl
      have fin : (e = .normal ∨ e = .ret) → resK P G fn.results.toList T' H' (fun vs => oneK vs fun v => k v H') = true → ∃ v H', Does P G f args H.abs (fun r h => r = v ∧ h = FH.abs H') ∧ H.next ≤ H'.next ∧ k v H' = true := by
        intro he hr
        obtain ⟨vs, r1, r2⟩ := resK_inv hr
        obtain ⟨r, r3, r4⟩ := oneK_inv r1 r2
        refine ⟨r, H', does_of (enters_of hp hf hb) hf hb h1 ?_, g2, r4⟩
        rw [← hT0]
        exact g1 _ ⟨he, r, r3, rfl, rfl⟩
      cases e with
      | normal => exact fin (.inl rfl) g3
      | ret => exact fin (.inr rfl) g3
      | exit _ => simp [contOf] at g3
      | goto _ => simp [contOf] at g3
      | panic _ => simp [contOf] at g3
      | outgrown => simp [contOf] at g3

noncomputable def yesK (v : AV) (_ : FH) : Bool := v.onBool false fun b => b

/-- A closed call that evaluates to true. -/
theorem closed_yes {ov : Ov} {f : FuncId} {fuel n : Nat} (he : Enters P f) (hm : P.follows .mixedOrders = true) (hp : plainFn P = true) (hov : OvGoodK P (fun _ => none) ov) (h : fcall ov P (fun _ => none) fuel n f [] FH.empty yesK = true) (w : World) :
    Calls P f #[] w fun e w' => e = .returned (.bool true) ∧ Olds w w' := by
  obtain ⟨v, H', hd, _, hk⟩ := fcall_sound hm hp hov n f [] FH.empty yesK h
  rw [FH.abs_empty] at hd
  have hv : v = .bool true := by
    rcases AV.onBool_inv (show v.onBool false (fun b => b) = true from hk) with ⟨b, hb, h⟩ | ⟨h, _⟩
    · rw [hb, h]
    · simp at h
  exact hd.yes he (fun r H h => by rw [h.1, hv]) w (gnone _) .nil
end

def noOv : Ov := fun _ => none
theorem noOv_good (P : Program) (G : Nat → Option AV) : OvGoodK P G noOv := fun _ _ h => by simp [noOv] at h
end Go.Abs

/-
  The place of a byte in a string, as the model reckons it by itself; and closed calls beside known variables.
-/



namespace Go.Abs
open Go Go.RowKit

/-- The place of the first byte with that number, counted from i. -/
noncomputable def idxK (k : Int → Bool) (s : List UInt8) : Nat → Nat → Bool :=
  List.rec (motive := fun _ => Nat → Nat → Bool) (fun _ _ => k (Int.negSucc 0)) (fun b _ ih c i => ifK (Nat.beq b.toNat c) (k (Int.ofNat i)) (natK (Nat.succ i) fun i => ih c i)) s

theorem indexByte_cases (b : UInt8) (l : List UInt8) (c : UInt8) : Go.Lib.indexByte (b :: l) c = if b = c then 0 else if Go.Lib.indexByte l c = -1 then -1 else Go.Lib.indexByte l c + 1 := by
  simp [Go.Lib.indexByte]

theorem idxK_inv {k : Int → Bool} {c : UInt8} : ∀ (s : List UInt8) (i : Nat), idxK k s c.toNat i = true → k (if Go.Lib.indexByte s c = -1 then -1 else Go.Lib.indexByte s c + i) = true
  | [], i, h => h
  | b :: l, i, h => by
    have h : ifK (Nat.beq b.toNat c.toNat) (k (Int.ofNat i)) (natK (Nat.succ i) fun i => idxK k l c.toNat i) = true := h
    rw [indexByte_cases]
    by_cases e : b = c
    · subst e
      have e1 : Nat.beq b.toNat b.toNat = true := Nat.beq_refl _
      rw [e1, ifK_true] at h
      simpa using h
    · have e1 : Nat.beq b.toNat c.toNat = false := by
        cases h' : Nat.beq b.toNat c.toNat with
        | false => rfl
        | true => exact absurd (UInt8.toNat_inj.1 (Nat.eq_of_beq_eq_true h')) e
      rw [e1, ifK_false, natK_eq] at h
      have := idxK_inv l (i + 1) h
      rw [if_neg e]
      have hge := Go.Lib.indexByte_ge l c
      by_cases e2 : Go.Lib.indexByte l c = -1
      · rw [if_pos e2] at this ⊢; simpa using this
      · rw [if_neg e2] at this ⊢
        rw [if_neg (by omega)]
        have : Go.Lib.indexByte l c + 1 + (i : Int) = Go.Lib.indexByte l c + ((i + 1 : Nat) : Int) := by omega
        rw [this]; assumption

/-- 'internal/bytealg.IndexByteString' and its like: the model's own. -/
noncomputable def idxOv (args : List AV) (H : FH) (k : AV → FH → Bool) : Bool :=
  nthK args 0 (fun a => nthK args 1 (fun b => ifK (Nat.beq (lenN args) 2)
    (a.onStr false fun s => b.onInt false fun kd n => ifK (kindB kd .u8) (natK n.toNat fun c => ifK (Nat.blt c 256) (idxK (fun r => k (.int .i64 r) H) s c 0) false) false) false) false) false

structure IsIdx (P : Program) (f : FuncId) : Prop where
  ex : ∃ fn, P.funcs[f]? = some fn ∧ (fn.name == "runtime.NumGoroutine") = false ∧ fn.body.isNone = true ∧ Extern.findNext fn = none ∧ Extern.find fn = some Extern.BytealgIndexByte.indexByte

theorem nthK_inv {α : Type} {l : List α} {n : Nat} {k : α → Bool} (h : nthK l n k false = true) : ∃ a, l[n]? = some a ∧ k a = true := by
  rw [nthK_eq] at h
  split at h
  · rename_i a ha; exact ⟨a, ha, h⟩
  · simp at h

theorem idx_does {P : Program} {G : Nat → Option AV} {f : FuncId} (hf : IsIdx P f) (s : List UInt8) (c : Int) (H : AHeap) :
    Does P G f [.str s, .int .u8 c] H fun r h => r = .int .i64 (Go.Lib.indexByte s c.toNat.toUInt8) ∧ h = H := by
  obtain ⟨fn, h1, h2, h3, h4, h5⟩ := hf.ex
  refine ⟨fun E w vs hR hG hv => ?_⟩
  cases hv with | cons ha hv =>
  cases hv with | cons hb hv =>
  cases hv
  cases ha
  cases hb
  refine .inr ⟨.int .i64 (Go.Lib.indexByte s c.toNat.toUInt8), w, ?_, _, H, E, ⟨rfl, rfl⟩, Ext.refl E, .int _ _, hR⟩
  rw [run_callFunc_extern h1 h2 h3 h4 h5]
  have := Go.Lib.run_indexByteString (P := P) ⟨s.toArray⟩ c w
  simp only at this
  rw [this]
  rfl

theorem idxOv_good {P : Program} {G : Nat → Option AV} {f : FuncId} (hf : IsIdx P f) (args : List AV) (H : FH) (k : AV → FH → Bool) (h : idxOv args H k = true) :
    ∃ v H', Does P G f args H.abs (fun r h => r = v ∧ h = FH.abs H') ∧ H.next ≤ H'.next ∧ k v H' = true := by
  obtain ⟨a, ha, h⟩ := nthK_inv h
  obtain ⟨b, hb, h⟩ := nthK_inv h
  obtain ⟨hl, h⟩ := ifK_inv h
  have hl := Nat.eq_of_beq_eq_true hl
  rw [lenN_eq] at hl
  obtain rfl : args = [a, b] := by
    match args, hl with
    | [x, y], _ => simp at ha hb; subst ha; subst hb; rfl
  rcases AV.onStr_inv h with ⟨s, rfl, h⟩ | ⟨h, _⟩
  case inr => simp at h
  rcases AV.onInt_inv (show AV.onInt false _ b = true from h) with ⟨kd, n, rfl, h⟩ | ⟨h, _⟩
  case inr => simp at h
  have h : ifK (kindB kd .u8) (natK n.toNat fun c => ifK (Nat.blt c 256) (idxK (fun r => k (.int .i64 r) H) s c 0) false) false = true := h
  obtain ⟨hk, hx⟩ := ifK_inv h
  rw [natK_eq] at hx
  obtain ⟨hlt, hx⟩ := ifK_inv hx
  have hlt : n.toNat < 256 := Nat.le_of_ble_eq_true hlt
  obtain rfl : kd = .u8 := kindB_eq.1 hk
  have e : (n.toNat.toUInt8).toNat = n.toNat := by simp [Nat.toUInt8]; omega
  rw [← e] at hx
  have := idxK_inv s 0 hx
  refine ⟨_, H, idx_does hf s n H.abs, Nat.le_refl _, ?_⟩
  have hge := Go.Lib.indexByte_ge s n.toNat.toUInt8
  split at this
  · rename_i e; rw [e]; exact this
  · simpa using this

/-- Two of them. -/
noncomputable def idxOvs (a b : FuncId) : Ov := fun f => ifK (Nat.beq f a) (some idxOv) (ifK (Nat.beq f b) (some idxOv) none)

theorem idxOvs_good {P : Program} {G : Nat → Option AV} {a b : FuncId} (ha : IsIdx P a) (hb : IsIdx P b) : OvGoodK P G (idxOvs a b) := by
  intro f g h args H k hg
  unfold idxOvs at h
  cases e : Nat.beq f a with
  | true =>
    obtain rfl := Nat.eq_of_beq_eq_true e
    rw [e, ifK_true] at h
    simp only [Option.some.injEq] at h; subst h
    exact idxOv_good ha args H k hg
  | false =>
    rw [e, ifK_false] at h
    cases e : Nat.beq f b with
    | true =>
      obtain rfl := Nat.eq_of_beq_eq_true e
      rw [e, ifK_true] at h
      simp only [Option.some.injEq] at h; subst h
      exact idxOv_good hb args H k hg
    | false => rw [e, ifK_false] at h; simp at h

/-- A closed call that evaluates to true, beside known variables. -/
theorem closed_yesG {P : Program} {G : Nat → Option AV} {ov : Ov} {f : FuncId} {fuel n : Nat} (he : Enters P f) (hm : P.follows .mixedOrders = true) (hp : plainFn P = true) (hov : OvGoodK P G ov) (h : fcall ov P G fuel n f [] FH.empty yesK = true) (w : World)
    (hG : GRel (Env.start w) G) : Calls P f #[] w fun e w' => e = .returned (.bool true) ∧ Olds w w' := by
  obtain ⟨v, H', hd, _, hk⟩ := fcall_sound hm hp hov n f [] FH.empty yesK h
  rw [FH.abs_empty] at hd
  have hv : v = .bool true := by
    rcases AV.onBool_inv (show v.onBool false (fun b => b) = true from hk) with ⟨b, hb, h⟩ | ⟨h, _⟩
    · rw [hb, h]
    · simp at h
  exact hd.yes he (fun r H h => by rw [h.1, hv]) w hG .nil
end Go.Abs

/-
  What chapter 4 says of words, in plain Lean: blanks, remarks, words, a text cut.
-/
namespace Go.Lex

abbrev Bs := List UInt8

def isBlank (b : UInt8) : Bool := b == 32 || b == 9 || b == 10 || b == 13
def isLetter (b : UInt8) : Bool := decide (97 ≤ b.toNat) && decide (b.toNat ≤ 122)
def isDigit (b : UInt8) : Bool := decide (48 ≤ b.toNat) && decide (b.toNat ≤ 57)
def isNamec (b : UInt8) : Bool := isLetter b || isDigit b || b == 95

theorem dropWhile_le {α : Type} (p : α → Bool) : ∀ l : List α, (l.dropWhile p).length ≤ l.length
  | [] => Nat.le_refl _
  | a :: l => by
    rw [List.dropWhile_cons]
    split
    · exact Nat.le_succ_of_le (dropWhile_le p l)
    · exact Nat.le_refl _

/-- What is left behind blanks, line ends, remarks. -/
def betw (s : Bs) : Bs :=
  match h : s.dropWhile isBlank with
  | 45 :: 45 :: q => betw (q.dropWhile fun b => b != 10)
  | r => r
termination_by s.length
decreasing_by
  have h1 := dropWhile_le isBlank s
  rw [h] at h1
  have h2 := dropWhile_le (fun b : UInt8 => b != 10) q
  simp only [List.length_cons] at h1
  omega

def keptWords : List Bs := [[110,111,100,101],[114,101,116,117,114,110,115],[118,97,114],[108,101,116],[116,101,108],[98,111,111,108],[105,110,116],[116,114,117,101],[102,97,108,115,101],[110,111,116],[97,110,100],[111,114],[120,111,114],[109,111,100],[105,102],[116,104,101,110],[101,108,115,101],[112,114,101],[102,98,121],[119,104,101,110],[109,101,114,103,101]]
def kept (s : Bs) : Bool := keptWords.contains s

def signs : List Bs := [[60,61],[62,61],[60,62],[45,62],[40],[41],[58],[59],[44],[61],[43],[45],[42],[47],[60],[62]]
def signOf (s : Bs) : Option Bs := signs.find? fun x => x.isPrefixOf s

def numVal (s : Bs) : Nat := s.foldl (fun n b => 10 * n + (b.toNat - 48)) 0

structure Wd where
  kind : Nat
  text : Bs
  n : Nat
  deriving DecidableEq

/-- The word that a text begins with. -/
def wordS (s : Bs) : Option Wd := match s with
  | [] => none
  | b :: _ =>
    if isLetter b then
      (if kept (s.takeWhile isNamec) then some ⟨2, s.takeWhile isNamec, 0⟩ else if (s.takeWhile isNamec).length ≤ 24 then some ⟨1, s.takeWhile isNamec, 0⟩ else none)
    else if isDigit b then
      (if numVal (s.takeWhile isDigit) < 9223372036854775808 ∧ ((s.takeWhile isDigit).length = 1 ∨ b ≠ 48) then some ⟨3, s.takeWhile isDigit, numVal (s.takeWhile isDigit)⟩ else none)
    else match signOf s with
      | some t => some ⟨4, t, 0⟩
      | none => none

/-- A text of n bytes in all, cut: where each word stands, what it is; or where the first one stands that is none. -/
def cutS (n : Nat) (s : Bs) : Except Nat (List (Nat × Wd)) :=
  match h : betw s with
  | [] => .ok []
  | b :: r => match wordS (b :: r) with
    | none => .error (n - (r.length + 1))
    | some w => match cutS n (r.drop (w.text.length - 1)) with
      | .ok l => .ok ((n - (r.length + 1), w) :: l)
      | .error e => .error e
termination_by s.length
decreasing_by
  have hb : ∀ s : Bs, (betw s).length ≤ s.length := by
    intro s
    induction s using betw.induct with
    | case1 s q h ih =>
      rw [betw]
      split
      · rename_i q' h'
        rw [h] at h'
        simp only [List.cons.injEq, true_and] at h'
        subst h'
        have h1 := dropWhile_le isBlank s
        rw [h] at h1
        have h2 := dropWhile_le (fun b : UInt8 => b != 10) q
        simp only [List.length_cons] at h1
        omega
      · rename_i h'
        exact absurd h (h' q)
    | case2 s h =>
      rw [betw]
      split
      · rename_i q h'
        exact absurd h' (h q)
      · exact dropWhile_le isBlank s
  have h1 := hb s
  rw [h] at h1
  simp only [List.length_cons, List.length_drop] at h1 ⊢
  omega

end Go.Lex

/-
  Functions of the library by their contracts: a copy of a string; contracts put together.
-/


namespace Go.Abs
open Go Go.RowKit

theorem Rel.below {E : Env} {H : AHeap} {w w' : World} (h : Rel E H w) (b : Below w.heap.size w w') : Rel E H w' := by
  have hb : ∀ (B : Nat) (o : Obj), w.heap[B]? = some o → w'.heap[B]? = some o := fun B o ho => by
    rw [b.block B (Array.getElem?_eq_some_iff.1 ho).1]; exact ho
  exact ⟨b.os.trans h.os, b.output.trans h.out, fun B o hB => hb _ _ (h.K B o hB), fun B o hB => hb _ _ (h.F B o hB), h.KF, h.dom, fun i x hi => by
    obtain ⟨p, ob, g1, g2, g3, g4, g5⟩ := h.live i x hi
    exact ⟨p, ob, g1, g2, g3, hb _ _ g4, g5⟩, h.inj⟩

/-- A function that hands back a string's like. -/
structure IsCopy (P : Program) (f : FuncId) : Prop where
  enters : Enters P f
  runs : ∀ (s : ByteArray) (w : World), s.size ≤ 281474976710656 → Calls P f #[.string s] w fun e w' => e = .returned (.string s) ∧ Below w.heap.size w w'

theorem copy_does {P : Program} {G : Nat → Option AV} {f : FuncId} (hf : IsCopy P f) (s : List UInt8) (hs : s.length ≤ 281474976710656) (H : AHeap) : Does P G f [.str s] H fun r h => r = .str s ∧ h = H := by
  refine ⟨fun E w vs hR hG hv => ?_⟩
  cases hv with | cons ha hv =>
  cases hv
  cases ha
  refine .inl ⟨hf.enters _ _, (hf.runs ⟨s.toArray⟩ w (by simpa [ByteArray.size] using hs)).mono fun e w' ⟨h1, h2⟩ => ⟨_, h1, .str s, H, E, ⟨rfl, rfl⟩, Ext.refl E, .str s, hR.below h2⟩⟩

noncomputable def copyOv (args : List AV) (H : FH) (k : AV → FH → Bool) : Bool :=
  nthK args 0 (fun a => ifK (Nat.beq (lenN args) 1) (a.onStr false fun s => ifK (Nat.ble (lenN s) 281474976710656) (k (.str s) H) false) false) false

theorem copyOv_good {P : Program} {G : Nat → Option AV} {f : FuncId} (hf : IsCopy P f) (args : List AV) (H : FH) (k : AV → FH → Bool) (h : copyOv args H k = true) :
    ∃ v H', Does P G f args H.abs (fun r h => r = v ∧ h = FH.abs H') ∧ H.next ≤ H'.next ∧ k v H' = true := by
  obtain ⟨a, ha, h⟩ := nthK_inv h
  obtain ⟨hl, h⟩ := ifK_inv h
  have hl := Nat.eq_of_beq_eq_true hl
  rw [lenN_eq] at hl
  obtain rfl : args = [a] := by
    match args, hl with
    | [x], _ => simp at ha; subst ha; rfl
  rcases AV.onStr_inv h with ⟨s, rfl, h⟩ | ⟨h, _⟩
  case inr => simp at h
  have h : ifK (Nat.ble (lenN s) 281474976710656) (k (.str s) H) false = true := h
  obtain ⟨h1, h2⟩ := ifK_inv h
  have h1 : lenN s ≤ 281474976710656 := Nat.le_of_ble_eq_true h1
  rw [lenN_eq] at h1
  exact ⟨_, H, copy_does hf s h1 H.abs, Nat.le_refl _, h2⟩

/-- One contract ahead of others. -/
noncomputable def ovAdd (a : FuncId) (g : List AV → FH → (AV → FH → Bool) → Bool) (o : Ov) : Ov := fun f => ifK (Nat.beq f a) (some g) (o f)

theorem ovAdd_good {P : Program} {G : Nat → Option AV} {a : FuncId} {g : List AV → FH → (AV → FH → Bool) → Bool} {o : Ov}
    (hg : ∀ args H k, g args H k = true → ∃ v H', Does P G a args H.abs (fun r h => r = v ∧ h = FH.abs H') ∧ H.next ≤ H'.next ∧ k v H' = true) (ho : OvGoodK P G o) : OvGoodK P G (ovAdd a g o) := by
  intro f g' h args H k hk
  unfold ovAdd at h
  cases e : Nat.beq f a with
  | true =>
    obtain rfl := Nat.eq_of_beq_eq_true e
    rw [e, ifK_true] at h
    simp only [Option.some.injEq] at h; subst h
    exact hg args H k hk
  | false => rw [e, ifK_false] at h; exact ho f g' h args H k hk
end Go.Abs

/-
  How often a byte stands in a string (bytealg.CountString), as the model reckons it by itself.
-/

namespace Go.Abs
open Go Go.RowKit

noncomputable def cntK (k : Nat → Bool) (s : List UInt8) : Nat → Nat → Bool :=
  List.rec (motive := fun _ => Nat → Nat → Bool) (fun _ n => k n) (fun b _ ih c n => ifK (Nat.beq b.toNat c) (natK (Nat.succ n) fun n => ih c n) (ih c n)) s
theorem cntK_inv {k : Nat → Bool} {c : UInt8} : ∀ (s : List UInt8) (n : Nat), cntK k s c.toNat n = true → k (n + Go.Lib.countByte s c) = true
  | [], n, h => by
    have h : k n = true := h
    simpa [Go.Lib.countByte] using h
  | b :: l, n, h => by
    have h : ifK (Nat.beq b.toNat c.toNat) (natK (Nat.succ n) fun n => cntK k l c.toNat n) (cntK k l c.toNat n) = true := h
    by_cases e : b = c
    · subst e
      have e1 : Nat.beq b.toNat b.toNat = true := Nat.beq_refl _
      rw [e1, ifK_true, natK_eq] at h
      have := cntK_inv l (n + 1) h
      have e2 : Go.Lib.countByte (b :: l) b = Go.Lib.countByte l b + 1 := by simp [Go.Lib.countByte]
      rw [e2, show n + (Go.Lib.countByte l b + 1) = n + 1 + Go.Lib.countByte l b by omega]
      exact this
    · have e1 : Nat.beq b.toNat c.toNat = false := by
        cases h' : Nat.beq b.toNat c.toNat with
        | false => rfl
        | true => exact absurd (UInt8.toNat_inj.1 (Nat.eq_of_beq_eq_true h')) e
      rw [e1, ifK_false] at h
      have := cntK_inv l n h
      have e2 : Go.Lib.countByte (b :: l) c = Go.Lib.countByte l c := by simp [Go.Lib.countByte, List.count_cons, e]
      rw [e2]
      exact this
noncomputable def cntOv (args : List AV) (H : FH) (k : AV → FH → Bool) : Bool :=
  nthK args 0 (fun a => nthK args 1 (fun b => ifK (Nat.beq (lenN args) 2)
    (a.onStr false fun s => b.onInt false fun kd n => ifK (kindB kd .u8) (natK n.toNat fun c => ifK (Nat.blt c 256) (cntK (fun r => k (.int .i64 (Int.ofNat r)) H) s c 0) false) false) false) false) false
structure IsCnt (P : Program) (f : FuncId) : Prop where
  ex : ∃ fn, P.funcs[f]? = some fn ∧ (fn.name == "runtime.NumGoroutine") = false ∧ fn.body.isNone = true ∧ Extern.findNext fn = none ∧ Extern.find fn = some Extern.BytealgCount.count
theorem cnt_does {P : Program} {G : Nat → Option AV} {f : FuncId} (hf : IsCnt P f) (s : List UInt8) (c : Int) (H : AHeap) :
    Does P G f [.str s, .int .u8 c] H fun r h => r = .int .i64 (Go.Lib.countByte s c.toNat.toUInt8 : Nat) ∧ h = H := by
  obtain ⟨fn, h1, h2, h3, h4, h5⟩ := hf.ex
  refine ⟨fun E w vs hR hG hv => ?_⟩
  cases hv with | cons ha hv =>
  cases hv with | cons hb hv =>
  cases hv
  cases ha
  cases hb
  refine .inr ⟨.int .i64 (Go.Lib.countByte s c.toNat.toUInt8 : Nat), w, ?_, _, H, E, ⟨rfl, rfl⟩, Ext.refl E, .int _ _, hR⟩
  rw [run_callFunc_extern h1 h2 h3 h4 h5]
  have := Go.Lib.run_countString (P := P) ⟨s.toArray⟩ c w
  simp only at this
  rw [this]
  rfl
theorem cntOv_good {P : Program} {G : Nat → Option AV} {f : FuncId} (hf : IsCnt P f) (args : List AV) (H : FH) (k : AV → FH → Bool) (h : cntOv args H k = true) :
    ∃ v H', Does P G f args H.abs (fun r h => r = v ∧ h = FH.abs H') ∧ H.next ≤ H'.next ∧ k v H' = true := by
  obtain ⟨a, ha, h⟩ := nthK_inv h
  obtain ⟨b, hb, h⟩ := nthK_inv h
  obtain ⟨hl, h⟩ := ifK_inv h
  have hl := Nat.eq_of_beq_eq_true hl
  rw [lenN_eq] at hl
  obtain rfl : args = [a, b] := by
    match args, hl with
    | [x, y], _ => simp at ha hb; subst ha; subst hb; rfl
  rcases AV.onStr_inv h with ⟨s, rfl, h⟩ | ⟨h, _⟩
  case inr => simp at h
  rcases AV.onInt_inv (show AV.onInt false _ b = true from h) with ⟨kd, n, rfl, h⟩ | ⟨h, _⟩
  case inr => simp at h
  have h : ifK (kindB kd .u8) (natK n.toNat fun c => ifK (Nat.blt c 256) (cntK (fun r => k (.int .i64 (Int.ofNat r)) H) s c 0) false) false = true := h
  obtain ⟨hk, hx⟩ := ifK_inv h
  rw [natK_eq] at hx
  obtain ⟨hlt, hx⟩ := ifK_inv hx
  have hlt : n.toNat < 256 := Nat.le_of_ble_eq_true hlt
  obtain rfl : kd = .u8 := kindB_eq.1 hk
  have e : (n.toNat.toUInt8).toNat = n.toNat := by simp [Nat.toUInt8]; omega
  rw [← e] at hx
  have := cntK_inv s 0 hx
  refine ⟨_, H, cnt_does hf s n H.abs, Nat.le_refl _, ?_⟩
  simpa using this
end Go.Abs

/-
  A region that draws its order, and in which nothing of the heap is changed: it is walked without a look at the orders of its reads.
-/

namespace Go.Abs
open Go

/-- A region that leaves the heap alone, in its text's order; cs: what its operations were, turned round. -/
def ASr (X : Ctx) (ops : Array Oper) (K : List Nat → (Nat → AV) → Prop) : List Oper → List Nat → (Nat → AV) → AHeap → Prop
  | [], cs, T, _ => K cs T
  | o :: r, cs, T, H =>
    @condA (awanted ops T o)
      ⟨fun _ => @altO _ (acallee (aval X.G T) o) ⟨fun fa => ∃ x, Does X.P X.G fa.1 fa.2 H (fun y h => y = x ∧ h = H) ∧ ASr X ops K r (3 :: cs) (tput T o.dst x) H⟩
        ⟨@altO _ (apure X.P (aval X.G T) o) ⟨fun v => ASr X ops K r (0 :: cs) (tput T o.dst v) H⟩
          ⟨@altO _ (aread X.P (aval X.G T) H.get o) ⟨fun v => ASr X ops K r (1 :: cs) (tput T o.dst v) H⟩ ⟨False⟩⟩⟩⟩
      ⟨fun _ => ASr X ops K r (0 :: cs) (tput T o.dst undefA) H⟩

def ASf [X : Hid Ctx] [ops : Hid (Array Oper)] [K : Hid (List Nat → (Nat → AV) → Prop)] [l : Hid (List Oper)] [cs : Hid (List Nat)] [T : Hid (Nat → AV)] (H : AHeap) : Prop := ASr X.v ops.v K.v l.v cs.v T.v H

def StillAt (H : AHeap) (x : Lite) : Prop := x.H = H ∧ (x.c = 1 → x.rd H.get = some x.v)

theorem as_adr {X : Ctx} {ops : Array Oper} {K : List Nat → (Nat → AV) → Prop} : ∀ (l : List Oper) (cs : List Nat) (s : List Lite) (T : Nat → AV) (H : AHeap), ASr X ops K l cs T H → s.map (·.c) = cs.reverse → (∀ x ∈ s, StillAt H x) →
    ∃ cF, ADr X ops (fun s T' H' => s.map (·.c) = cF.reverse ∧ (∀ x ∈ s, StillAt H x) ∧ K cF T' ∧ H' = H) l s T H
  | [], cs, s, T, H, h, h1, h2 => ⟨cs, h1, h2, h, rfl⟩
  | o :: r, cs, s, T, H, h, h1, h2 => by
    have go : ∀ (x : Lite), StillAt H x → (s ++ [x]).map (·.c) = (x.c :: cs).reverse ∧ ∀ y ∈ s ++ [x], StillAt H y := fun x hx => by
      refine ⟨by simp [h1], fun y hy => ?_⟩
      simp only [List.mem_append, List.mem_singleton] at hy
      rcases hy with hy | rfl
      · exact h2 y hy
      · exact hx
    simp only [ASr] at h
    simp only [ADr]
    unfold condA at h
    split at h
    · rename_i hw
      simp only at h
      unfold altO at h
      split at h
      · rename_i fa hc
        obtain ⟨x, hd, h⟩ := h
        obtain ⟨g1, g2⟩ := go ⟨3, H, fun _ => none, x⟩ ⟨rfl, fun e => by simp at e⟩
        obtain ⟨cF, h3⟩ := as_adr r _ _ _ H h g1 g2
        refine ⟨cF, ?_⟩
        unfold condA
        rw [if_pos hw]
        show @altO _ (acallee (aval X.G T) o) ⟨_⟩ ⟨_⟩
        rw [hc]
        exact ⟨x, H, hd, Nat.le_refl _, h3⟩
      · rename_i hc
        try simp only at h
        split at h
        · rename_i v hv
          obtain ⟨g1, g2⟩ := go ⟨0, H, fun _ => none, v⟩ ⟨rfl, fun e => by simp at e⟩
          obtain ⟨cF, h3⟩ := as_adr r _ _ _ H h g1 g2
          refine ⟨cF, ?_⟩
          unfold condA
          rw [if_pos hw]
          show @altO _ (acallee (aval X.G T) o) ⟨_⟩ ⟨_⟩
          rw [hc]
          show @altO _ (apure X.P (aval X.G T) o) ⟨_⟩ ⟨_⟩
          rw [hv]
          exact h3
        · rename_i hv0
          try simp only at h
          split at h
          · rename_i v hv
            obtain ⟨g1, g2⟩ := go ⟨1, H, fun g => aread X.P (aval X.G T) g o, v⟩ ⟨rfl, fun _ => hv⟩
            obtain ⟨cF, h3⟩ := as_adr r _ _ _ H h g1 g2
            refine ⟨cF, ?_⟩
            unfold condA
            rw [if_pos hw]
            show @altO _ (acallee (aval X.G T) o) ⟨_⟩ ⟨_⟩
            rw [hc]
            show @altO _ (apure X.P (aval X.G T) o) ⟨_⟩ ⟨_⟩
            rw [hv0]
            show @altO _ (aread X.P (aval X.G T) H.get o) ⟨_⟩ ⟨_⟩
            rw [hv]
            exact h3
          · exact h.elim
    · rename_i hw
      obtain ⟨g1, g2⟩ := go ⟨0, H, fun _ => none, undefA⟩ ⟨rfl, fun e => by simp at e⟩
      obtain ⟨cF, h3⟩ := as_adr r _ _ _ H h g1 g2
      refine ⟨cF, ?_⟩
      unfold condA
      rw [if_neg hw]
      exact h3

theorem heapF_still {s : List Lite} {H : AHeap} (hs : ∀ x ∈ s, StillAt H x) (q : Nat) : heapF s H q = H := by
  unfold heapF
  split
  · rename_i x hx
    exact (hs x (List.mem_of_getElem? hx)).1
  · rfl

theorem rdsA_still {s : List Lite} {H : AHeap} (hs : ∀ x ∈ s, StillAt H x) : ∀ (L : List (Nat × Nat)), (∀ e ∈ L, (s.map (·.c))[e.1]? = some 1) → rdsA s H (L.map fun x => (x.1, x.2, []))
  | [], _ => trivial
  | (r, q) :: L, h => by
    refine ⟨?_, rdsA_still hs L fun e he => h e (by simp [he])⟩
    have h1 := h (r, q) (by simp)
    simp only
    split
    · rename_i x hx
      rw [List.getElem?_map, hx] at h1
      simp only [Option.map_some, Option.some.injEq] at h1
      have e : heapA s H q [] = H.get := by funext i; show (heapF s H q).get i = H.get i; rw [heapF_still hs]
      rw [e]
      exact (hs x (List.mem_of_getElem? hx)).2 h1
    · trivial

theorem needs_read {cs as_ : List Nat} : ∀ e ∈ needs cs as_, cs[e.1]? = some 1 := by
  rintro ⟨r, q⟩ h
  unfold needs at h
  simp only [List.mem_flatMap, List.mem_filter, List.mem_map] at h
  obtain ⟨⟨x, i⟩, ⟨h1, h2⟩, q', _, h3⟩ := h
  simp only [Prod.mk.injEq] at h3
  obtain ⟨rfl, rfl⟩ := h3
  simp only [beq_iff_eq] at h2
  subst h2
  have := List.mem_zipIdx h1
  obtain ⟨_, h5, h6⟩ := this
  simp only [Nat.sub_zero] at h6
  show cs[i]? = some 1
  rw [List.getElem?_eq_getElem (by omega), h6]

theorem aw_still {X : Ctx} {ops : Array Oper} {Q : Post} {T : Nat → AV} {H : AHeap} {id : Nat} (hm : X.P.follows .mixedOrders = true) (hok : regionOk X.N ops = true)
    (h : ∀ es, ancs ops.toList = es → @ASf ⟨X⟩ ⟨ops⟩ ⟨fun cs T' => effsC cs.reverse es = true ∧ @PQ ⟨Q⟩ ⟨.normal⟩ ⟨T'⟩ H⟩ ⟨ops.toList⟩ ⟨[]⟩ ⟨T⟩ H) : @AWs ⟨X⟩ ⟨.region id ops true⟩ ⟨Q⟩ ⟨T⟩ H := by
  obtain ⟨cF, h1⟩ := as_adr _ [] [] _ _ (h _ rfl) rfl (by simp)
  refine aw_drawA (ancs ops.toList) ((needs cF.reverse (ancs ops.toList)).map fun x => (x.1, x.2, [])) hm hok rfl (ADr.mono ?_ h1)
  rintro s T' H' ⟨g1, g2, ⟨g3, g4⟩, rfl⟩
  rw [g1]
  refine ⟨⟨g3, ?_, ?_⟩, rdsA_still g2 _ ?_, g4⟩
  · rw [List.map_map]; simp [Function.comp_def]
  · simp [allocsOk]
  · rw [g1]; exact needs_read

/-- The same, over a list of operations written out. -/
theorem aw_still' {X : Ctx} {ops ops' : Array Oper} {Q : Post} {T : Nat → AV} {H : AHeap} {id : Nat} (he : ops = ops') (hm : X.P.follows .mixedOrders = true) (hok : regionOk X.N ops = true)
    (h : ∀ es, ancs ops.toList = es → @ASf ⟨X⟩ ⟨ops'⟩ ⟨fun cs T' => effsC cs.reverse es = true ∧ @PQ ⟨Q⟩ ⟨.normal⟩ ⟨T'⟩ H⟩ ⟨ops'.toList⟩ ⟨[]⟩ ⟨T⟩ H) : @AWs ⟨X⟩ ⟨.region id ops true⟩ ⟨Q⟩ ⟨T⟩ H := by
  subst he
  exact aw_still hm hok h

/-- A list of operations, where simp stops. -/
def ASs [X : Hid Ctx] [ops : Hid (Array Oper)] [K : Hid (List Nat → (Nat → AV) → Prop)] [l : Hid (List Oper)] [cs : Hid (List Nat)] [T : Hid (Nat → AV)] (H : AHeap) : Prop := ASr X.v ops.v K.v l.v cs.v T.v H

section
variable {X : Ctx} {T : Nat → AV} {H : AHeap} {ops : Array Oper} {K : List Nat → (Nat → AV) → Prop} {cs : List Nat}
@[simp] theorem asf_list {l : List Oper} : @ASf ⟨X⟩ ⟨ops⟩ ⟨K⟩ ⟨l.toArray.toList⟩ ⟨cs⟩ ⟨T⟩ H = @ASf ⟨X⟩ ⟨ops⟩ ⟨K⟩ ⟨l⟩ ⟨cs⟩ ⟨T⟩ H := Eq.trans rfl rfl
@[simp] theorem asf_nil : @ASf ⟨X⟩ ⟨ops⟩ ⟨K⟩ ⟨[]⟩ ⟨cs⟩ ⟨T⟩ H = K cs T := Eq.trans rfl rfl
@[simp] theorem asf_cons {o : Oper} {r : List Oper} : @ASf ⟨X⟩ ⟨ops⟩ ⟨K⟩ ⟨o :: r⟩ ⟨cs⟩ ⟨T⟩ H =
    @condA (awanted ops T o)
      ⟨fun _ => @altO _ (acallee (aval X.G T) o) ⟨fun fa => ∃ x, Does X.P X.G fa.1 fa.2 H (fun y h => y = x ∧ h = H) ∧ @ASs ⟨X⟩ ⟨ops⟩ ⟨K⟩ ⟨r⟩ ⟨3 :: cs⟩ ⟨tput T o.dst x⟩ H⟩
        ⟨@altO _ (apure X.P (aval X.G T) o) ⟨fun v => @ASf ⟨X⟩ ⟨ops⟩ ⟨K⟩ ⟨r⟩ ⟨0 :: cs⟩ ⟨tput T o.dst v⟩ H⟩
          ⟨@altO _ (aread X.P (aval X.G T) H.get o) ⟨fun v => @ASf ⟨X⟩ ⟨ops⟩ ⟨K⟩ ⟨r⟩ ⟨1 :: cs⟩ ⟨tput T o.dst v⟩ H⟩ ⟨False⟩⟩⟩⟩
      ⟨fun _ => @ASf ⟨X⟩ ⟨ops⟩ ⟨K⟩ ⟨r⟩ ⟨0 :: cs⟩ ⟨tput T o.dst undefA⟩ H⟩ := Eq.trans rfl rfl
@[simp] theorem asf_take_cons {n : Nat} {o : Oper} {r : List Oper} : @ASf ⟨X⟩ ⟨ops⟩ ⟨K⟩ ⟨List.take (n + 1) (o :: r)⟩ ⟨cs⟩ ⟨T⟩ H =
    @condA (awanted ops T o)
      ⟨fun _ => @altO _ (acallee (aval X.G T) o) ⟨fun fa => ∃ x, Does X.P X.G fa.1 fa.2 H (fun y h => y = x ∧ h = H) ∧ @ASs ⟨X⟩ ⟨ops⟩ ⟨K⟩ ⟨List.take n r⟩ ⟨3 :: cs⟩ ⟨tput T o.dst x⟩ H⟩
        ⟨@altO _ (apure X.P (aval X.G T) o) ⟨fun v => @ASf ⟨X⟩ ⟨ops⟩ ⟨K⟩ ⟨List.take n r⟩ ⟨0 :: cs⟩ ⟨tput T o.dst v⟩ H⟩
          ⟨@altO _ (aread X.P (aval X.G T) H.get o) ⟨fun v => @ASf ⟨X⟩ ⟨ops⟩ ⟨K⟩ ⟨List.take n r⟩ ⟨1 :: cs⟩ ⟨tput T o.dst v⟩ H⟩ ⟨False⟩⟩⟩⟩
      ⟨fun _ => @ASf ⟨X⟩ ⟨ops⟩ ⟨K⟩ ⟨List.take n r⟩ ⟨0 :: cs⟩ ⟨tput T o.dst undefA⟩ H⟩ := Eq.trans rfl rfl
@[simp] theorem asf_take_zero {l : List Oper} : @ASf ⟨X⟩ ⟨ops⟩ ⟨K⟩ ⟨List.take 0 l⟩ ⟨cs⟩ ⟨T⟩ H = K cs T := Eq.trans rfl rfl
@[simp] theorem asf_drop_cons {n : Nat} {o : Oper} {r : List Oper} : @ASf ⟨X⟩ ⟨ops⟩ ⟨K⟩ ⟨List.drop (n + 1) (o :: r)⟩ ⟨cs⟩ ⟨T⟩ H = @ASf ⟨X⟩ ⟨ops⟩ ⟨K⟩ ⟨List.drop n r⟩ ⟨cs⟩ ⟨T⟩ H := Eq.trans rfl rfl
@[simp] theorem asf_drop_zero {l : List Oper} : @ASf ⟨X⟩ ⟨ops⟩ ⟨K⟩ ⟨List.drop 0 l⟩ ⟨cs⟩ ⟨T⟩ H = @ASf ⟨X⟩ ⟨ops⟩ ⟨K⟩ ⟨l⟩ ⟨cs⟩ ⟨T⟩ H := Eq.trans rfl rfl
end

theorem asr_append {X : Ctx} {ops : Array Oper} {K : List Nat → (Nat → AV) → Prop} {b : List Oper} : ∀ {a : List Oper} {cs : List Nat} {T : Nat → AV} {H : AHeap}, ASr X ops (fun cs T => ASr X ops K b cs T H) a cs T H → ASr X ops K (a ++ b) cs T H
  | [], _, _, _, h => h
  | o :: a, cs, T, H, h => by
    simp only [ASr, List.cons_append] at h ⊢
    unfold condA at h ⊢
    split
    · rename_i hw
      rw [if_pos hw] at h
      simp only at h ⊢
      unfold altO at h ⊢
      split
      · rename_i fa hc
        rw [hc] at h
        obtain ⟨x, h1, h2⟩ := h
        exact ⟨x, h1, asr_append h2⟩
      · rename_i hc
        rw [hc] at h
        simp only at h ⊢
        split
        · rename_i v hv
          rw [hv] at h
          exact asr_append h
        · rename_i hv
          rw [hv] at h
          simp only at h ⊢
          split
          · rename_i v hv2
            rw [hv2] at h
            exact asr_append h
          · rename_i hv2
            rw [hv2] at h
            exact h
    · rename_i hw
      rw [if_neg hw] at h
      exact asr_append h

/-- The first n operations alone; then simp stops. -/
theorem as_split {X : Ctx} {ops : Array Oper} {K : List Nat → (Nat → AV) → Prop} {l : List Oper} {cs : List Nat} {T : Nat → AV} {H : AHeap} (n : Nat)
    (h : @ASf ⟨X⟩ ⟨ops⟩ ⟨fun cs T => @ASs ⟨X⟩ ⟨ops⟩ ⟨K⟩ ⟨l.drop n⟩ ⟨cs⟩ ⟨T⟩ H⟩ ⟨l.take n⟩ ⟨cs⟩ ⟨T⟩ H) : @ASf ⟨X⟩ ⟨ops⟩ ⟨K⟩ ⟨l⟩ ⟨cs⟩ ⟨T⟩ H := by
  have : ASr X ops K (l.take n ++ l.drop n) cs T H := asr_append h
  rw [List.take_append_drop] at this
  exact this
theorem as_go {X : Ctx} {ops : Array Oper} {K : List Nat → (Nat → AV) → Prop} {l : List Oper} {cs : List Nat} {T : Nat → AV} {H : AHeap} (F : (Nat → AV) → Prop) (hF : F T) (h : ∀ T', F T' → @ASf ⟨X⟩ ⟨ops⟩ ⟨K⟩ ⟨l⟩ ⟨cs⟩ ⟨T'⟩ H) : @ASs ⟨X⟩ ⟨ops⟩ ⟨K⟩ ⟨l⟩ ⟨cs⟩ ⟨T⟩ H := h T hF
theorem as_cont {X : Ctx} {ops : Array Oper} {K : List Nat → (Nat → AV) → Prop} {l : List Oper} {cs : List Nat} {T : Nat → AV} {H : AHeap} (h : @ASf ⟨X⟩ ⟨ops⟩ ⟨K⟩ ⟨l⟩ ⟨cs⟩ ⟨T⟩ H) : @ASs ⟨X⟩ ⟨ops⟩ ⟨K⟩ ⟨l⟩ ⟨cs⟩ ⟨T⟩ H := h
theorem as_list {X : Ctx} {ops : Array Oper} {K : List Nat → (Nat → AV) → Prop} {l : List Oper} {cs : List Nat} {T : Nat → AV} {H : AHeap} (h : @ASf ⟨X⟩ ⟨ops⟩ ⟨K⟩ ⟨l⟩ ⟨cs⟩ ⟨T⟩ H) : @ASf ⟨X⟩ ⟨ops⟩ ⟨K⟩ ⟨l.toArray.toList⟩ ⟨cs⟩ ⟨T⟩ H := h
end Go.Abs

/-
  A simplified meaning for Go code: a range over a function: code in a frame of any kind, a round, the iterator that yields, the statement, the function that holds it.
-/




namespace Go.Abs
open Go

/-! ### code without loops, in a frame of any kind, with any deferred calls -/
/-- The fence that lets all by; a round's frame, or none. -/
def wf (ro : Option Nat) : Fence := { Fence.wide with round := ro }
theorem wf_depth (ro : Option Nat) : (wf ro).depth.isSome = true → ∀ {p : Prop}, p := fun h => by simp [wf, Fence.wide] at h

structure StD (ds : List Deferred) (E0 : Env) (N : Nat) (T : Nat → AV) (H : AHeap) (a : Act) (w : World) : Prop where
  ex : ∃ E, Ext E0 E ∧ Rel E H w ∧ TRel E N T a.tmps
  defers : a.defers = ds
def liftD (ds : List Deferred) (Q : Post) (E0 : Env) (N : Nat) : Exit → Act → World → Prop := fun e a w => ∃ T H, Q e T H ∧ StD ds E0 N T H a w

def noDefer (o : Oper) : Bool := match o.op with
  | .defer _ => false
  | _ => true
theorem noDefer_sem {o : Oper} (h : noDefer o = true) (ro : Option Nat) (ρ : Operand → Value) : Oper.semAt ro ρ o = execOp ρ o := by
  refine Oper.semAt_eq ro ρ o fun c hc => ?_
  unfold noDefer at h
  rw [hc] at h
  cases h
def flatC : Code → Bool
  | .skip => true
  | .region _ ops d => !d && ops.toList.all noDefer
  | .seq a b => flatC a && flatC b
  | .cond _ a b => flatC a && flatC b
  | .block _ c => flatC c
  | .exit _ => true
  | .ret => true
  | _ => false

theorem wpListIn_cons {F : Fence} {n : Nat} {P : Program} {ops : Array Oper} {Q : Exit → Act → World → Prop} {o : Oper} {rest : List Oper} {a : Act} {w : World} :
    wpListIn F n P ops Q (o :: rest) a w = if Region.wanted o (yielded ops a.tmps) = true then o.wpIn F n P a w (wpListIn F n P ops Q rest) Q
      else ((∀ f, o.about P w a.eval = some f → F.fn f) ∧ wpListIn F n P ops Q rest (a.put o.dst undef) w) := rfl
theorem put_dfs (a : Act) (d : Option Tmp) (v : Value) : (a.put d v).defers = a.defers := by cases d <;> rfl

/-- An operation that is run by itself. -/
theorem wpIn_of_run {ro : Option Nat} {n : Nat} {P : Program} {o : Oper} {a : Act} {w w' : World} {v : Value} {K : Act → World → Prop} {Q' : Exit → Act → World → Prop} (hn : noDefer o = true)
    (h : (execOp a.eval o).run P w = .ok (.value v) w' ∨ ((execOp a.eval o).run P w = .ok .skip w' ∧ v = undef)) (hk : K (a.put o.dst v) w') : o.wpIn (wf ro) n P a w K Q' := by
  refine ⟨fun _ _ => trivial, ?_⟩
  rw [noDefer_sem hn]
  rcases h with h | ⟨h, rfl⟩
  · rw [h]; exact hk
  · rw [h]; exact hk

/-- What a call's operation runs to. -/
theorem call_run {E : Env} {G : Nat → Option AV} {N : Nat} {T : Nat → AV} {a : Act} {o : Oper} {P : Program} {w : World} {f : FuncId} {args : List AV} (hG : GRel E G) (hT : TRel E N T a.tmps) (hc : acallee (aval G T) o = some (f, args)) :
    ∃ vs : Array Value, VRels E args vs.toList ∧ (execOp a.eval o).run P w = (callFunc f vs).run P w := by
  obtain ⟨dst, op, ty, pos, after, guard⟩ := o
  unfold acallee at hc
  cases op <;> simp only at hc <;> try (simp at hc; done)
  rename_i c
  obtain ⟨callee, cargs, argTypes⟩ := c
  cases callee <;> simp only at hc <;> try (simp at hc; done)
  rename_i fo
  split at hc <;> try (simp at hc; done)
  rename_i k first captured as_ hf has
  simp only [Option.some.injEq, Prod.mk.injEq] at hc
  obtain ⟨rfl, rfl⟩ := hc
  have hops := hT.operands hG (fo :: cargs.toList)
  have hfv := hops fo (by simp) _ hf
  have hargs := avals_sound (E := E) (σ := a.eval) (fun x hx => hops x (by simp [hx])) has
  generalize hfe : a.eval fo = fv at hfv
  cases hfv with | func hf1 hc1 =>
  rename_i f2 c2
  refine ⟨f2 ++ cargs.map a.eval ++ c2, ?_, ?_⟩
  · simp only [Array.toList_append, Array.toList_map]
    exact (hf1.append hargs).append hc1
  · simp [execOp, resolve, hfe, Deferred.ofValue, invoke]

/-- A call of a function, in a frame of any kind. -/
theorem wpIn_of_call {ro : Option Nat} {n : Nat} {P : Program} {o : Oper} {a : Act} {w : World} {f : FuncId} {vs : Array Value} {K : Act → World → Prop} {Q' : Exit → Act → World → Prop} {R : Value → World → Prop} (hn : noDefer o = true)
    (h : (execOp a.eval o).run P w = (callFunc f vs).run P w) (hc : OpCalls P f vs w R) (hk : ∀ v w', R v w' → K (a.put o.dst v) w') : o.wpIn (wf ro) n P a w K Q' := by
  refine ⟨fun _ _ => trivial, ?_⟩
  rw [noDefer_sem hn, h]
  rcases hc with ⟨h1, h2⟩ | ⟨v, w', h1, h2⟩
  · rw [h1]
    refine ⟨fun q => wf_depth ro q, ?_⟩
    have h3 : CallsIn Fence.wide (n - 1) P f vs w fun e w' => ∃ v, e = .returned v ∧ R v w' := callsIn_wide.2 h2
    have h4 : CallsIn (wf ro) (n - 1) P f vs w fun e w' => ∃ v, e = .returned v ∧ R v w' := h3
    refine h4.mono ?_
    rintro e w' ⟨v, rfl, hr⟩
    exact hk v w' hr
  · rw [h1]
    exact hk v w' h2

section
variable {X : Ctx} {ro : Option Nat} {n : Nat} {ds : List Deferred}

theorem alr_of {ops : Array Oper} {Q : Post} : ∀ {l : List Oper} {T : Nat → AV} {H : AHeap}, l.all noDefer = true → ALr X ops Q l T H → ∀ E0 a w, GRel E0 X.G → StD ds E0 X.N T H a w → wpListIn (wf ro) n X.P ops (liftD ds Q E0 X.N) l a w
  | [], T, H, hn, h, E0, a, w, hG, hs => ⟨T, H, h, hs⟩
  | o :: r, T, H, hn, h, E0, a, w, hG, hs => by
    simp only [List.all_cons, Bool.and_eq_true] at hn
    obtain ⟨hd, h⟩ := h
    have hd' : ∀ k, o.dst = some k → k < X.N := fun k hk => by rw [hk] at hd; exact hd
    obtain ⟨⟨E, hx, hR, hT⟩, hdf⟩ := hs
    rw [wpListIn_cons, awanted_eq hT]
    unfold condA at h
    split at h
    · rename_i hw
      rw [if_pos hw]
      simp only at h
      unfold altO at h
      split at h
      · rename_i fa hc
        obtain ⟨vs, g1, g2⟩ := call_run (P := X.P) (w := w) (hG.mono hx.knows) hT hc
        have hcl := h.run E w vs.toList hR (hG.mono hx.knows) g1
        rw [Array.toArray_toList] at hcl
        refine wpIn_of_call hn.1 g2 hcl ?_
        rintro v w' ⟨r', H', E', k1, k2, k3, k4⟩
        exact alr_of hn.2 k1 E0 _ w' hG ⟨⟨E', hx.trans k2, k4, (hT.mono k2.knows).put o.dst k3 hd'⟩, (put_dfs _ _ _).trans hdf⟩
      · simp only at h
        split at h
        · rename_i ve ho
          obtain ⟨E', u, w', g1, g2, g3, g4⟩ := aop_sound hR (hT.operands (hG.mono hx.knows) o.op.operands.toList) ho
          exact wpIn_of_run hn.1 g4 (alr_of hn.2 h E0 _ w' hG ⟨⟨E', hx.trans g1, g3, (hT.mono g1.knows).put o.dst g2 hd'⟩, (put_dfs _ _ _).trans hdf⟩)
        · exact h.elim
    · rename_i hw
      rw [if_neg hw]
      exact ⟨fun _ _ => trivial, alr_of hn.2 h E0 _ w hG ⟨⟨E, hx, hR, hT.put o.dst (undef_rel E) hd'⟩, (put_dfs _ _ _).trans hdf⟩⟩

/-- Code in a frame of any kind. -/
def AWR (X : Ctx) (ro : Option Nat) (ds : List Deferred) (c : Code) (Q : Post) (T : Nat → AV) (H : AHeap) : Prop :=
  ∀ n E0 a w, GRel E0 X.G → StD ds E0 X.N T H a w → c.wpIn (wf ro) n X.P (liftD ds Q E0 X.N) a w
theorem AWR.mono {c : Code} {Q Q' : Post} {T : Nat → AV} {H : AHeap} (h : AWR X ro ds c Q T H) (hq : ∀ e T H, Q e T H → Q' e T H) : AWR X ro ds c Q' T H :=
  fun n E0 a w hG hs => wpIn_mono (h n E0 a w hG hs) fun _ _ _ ⟨T', H', q, s⟩ => ⟨T', H', hq _ _ _ q, s⟩
theorem awR_seq {x y : Code} {Q : Post} {T : Nat → AV} {H : AHeap} (h : AWR X ro ds x (QThen (fun T H => AWR X ro ds y Q T H) Q) T H) : AWR X ro ds (.seq x y) Q T H := by
  intro n E0 a w hG hs
  refine wpIn_seq (wpIn_mono (h n E0 a w hG hs) ?_)
  rintro e a' w' ⟨T', H', q, s⟩
  cases e with
  | normal => exact q n E0 a' w' hG s
  | exit id => exact ⟨T', H', q, s⟩
  | goto l => exact ⟨T', H', q, s⟩
  | ret => exact ⟨T', H', q, s⟩
  | panic c => exact ⟨T', H', q, s⟩
  | outgrown => exact ⟨T', H', q, s⟩
theorem awR_cond {c : Operand} {x y : Code} {b : Bool} {Q : Post} {T : Nat → AV} {H : AHeap} (hc : aval X.G T c = some (.bool b)) (h : AWR X ro ds (if b then x else y) Q T H) : AWR X ro ds (.cond c x y) Q T H := by
  rintro n E0 a w hG ⟨⟨E, hx, hR, hT⟩, hdf⟩
  have := hT.operands (hG.mono hx.knows) [c] c (by simp) _ hc
  have e : a.eval c = .bool b := by generalize a.eval c = v at this; cases this; rfl
  exact wpIn_cond e (h n E0 a w hG ⟨⟨E, hx, hR, hT⟩, hdf⟩)
theorem awR_block {id : Nat} {c : Code} {Q : Post} {T : Nat → AV} {H : AHeap} (h : AWR X ro ds c (QBlock id Q) T H) : AWR X ro ds (.block id c) Q T H := by
  intro n E0 a w hG hs
  refine wpIn_block (wpIn_mono (h n E0 a w hG hs) ?_)
  rintro e a' w' ⟨T', H', q, s⟩
  cases e with
  | exit id' =>
    simp only [QBlock] at q
    simp only [Exit.inBlock]
    split at q
    · rename_i hid; rw [if_pos hid]; exact ⟨T', H', q, s⟩
    · rename_i hid; rw [if_neg hid]; exact ⟨T', H', q, s⟩
  | normal => exact ⟨T', H', q, s⟩
  | goto l => exact ⟨T', H', q, s⟩
  | ret => exact ⟨T', H', q, s⟩
  | panic c => exact ⟨T', H', q, s⟩
  | outgrown => exact ⟨T', H', q, s⟩
theorem awR_ret {Q : Post} {T : Nat → AV} {H : AHeap} (h : Q .ret T H) : AWR X ro ds .ret Q T H := fun n E0 a w hG hs => wpIn_ret ⟨T, H, h, hs⟩
theorem awR_skip {Q : Post} {T : Nat → AV} {H : AHeap} (h : Q .normal T H) : AWR X ro ds .skip Q T H := fun n E0 a w hG hs => wpIn_skip ⟨T, H, h, hs⟩

theorem awR_flat : ∀ {c : Code} {Q : Post} {T : Nat → AV} {H : AHeap}, flatC c = true → AWr X c Q T H → AWR X ro ds c Q T H
  | .skip, Q, T, H, hf, h => awR_skip h
  | .region _ ops false, Q, T, H, hf, h => fun n E0 a w hG hs => wpIn_region_list (alr_of (by simpa [flatC] using hf) h E0 a w hG hs)
  | .region _ ops true, Q, T, H, hf, h => by simp [flatC] at hf
  | .seq x y, Q, T, H, hf, h => by
    simp only [flatC, Bool.and_eq_true] at hf
    refine awR_seq ((awR_flat (c := x) hf.1 h).mono ?_)
    intro e T' H' hq
    cases e <;> first | exact awR_flat (c := y) hf.2 hq | exact hq
  | .cond c x y, Q, T, H, hf, h => by
    simp only [flatC, Bool.and_eq_true] at hf
    simp only [AWr] at h
    unfold condV at h
    split at h
    · rename_i b hb
      cases b
      · exact awR_cond hb (awR_flat hf.2 (by simpa [condA] using h))
      · exact awR_cond hb (awR_flat hf.1 (by simpa [condA] using h))
    · exact h.elim
  | .block id c, Q, T, H, hf, h => awR_block (awR_flat (c := c) hf h)
  | .exit id, Q, T, H, hf, h => fun n E0 a w hG hs => wpIn_exit ⟨T, H, h, hs⟩
  | .ret, Q, T, H, hf, h => awR_ret h
  | .loop c, Q, T, H, hf, h => by simp [flatC] at hf
  | .rangeFunc .., Q, T, H, hf, h => by simp [flatC] at hf
  | .scope _, Q, T, H, hf, h => by simp [flatC] at hf
  | .label _, Q, T, H, hf, h => by simp [flatC] at hf
  | .goto _, Q, T, H, hf, h => by simp [flatC] at hf
  | .refuse _, Q, T, H, hf, h => by simp [flatC] at hf
end

/-! ### a region that draws its order, in a frame of any kind -/
theorem oper_in {ro : Option Nat} {n : Nat} {P : Program} {o : Oper} {a : Act} {w : World} {K : Act → World → Prop} {Q : Exit → Act → World → Prop} (hn : noDefer o = true) (h : o.wp P a w K Q) : o.wpIn (wf ro) n P a w K Q := by
  unfold Oper.wp at h
  refine ⟨fun _ _ => trivial, ?_⟩
  rw [noDefer_sem hn]
  generalize (execOp a.eval o).run P w = r at h
  cases r with
  | ok x w' =>
    cases x <;> simp only [Oper.upon] at h <;> try exact h.elim
    case value => exact h
    case skip => exact h
    case defer => exact h
    case enter f args =>
      refine ⟨fun q => wf_depth ro q, ?_⟩
      have h2 : CallsIn Fence.wide (n - 1) P f args w' _ := callsIn_wide.2 h
      exact h2
    case row row args => exact ⟨fun q => wf_depth ro q, fun c cs _ => let ⟨v, w'', r, s⟩ := h c cs; ⟨v, w'', r, stepsIn_wide.2 s⟩⟩
  | halt x w' => cases x <;> simp only [Oper.upon] at h <;> first | exact h | exact h.elim
theorem wpAny_in {ro : Option Nat} {n : Nat} {P : Program} {md : Region.Mode} {ops : Array Oper} {Q : Exit → Act → World → Prop} (hn : ∀ (i : Nat) (o : Oper), ops[i]? = some o → noDefer o = true) (hQ : ¬ LetsOut Q) : ∀ (fuel : Nat) (listed : Array Bool) (a : Act) (w : World),
    wpAny P md ops Q fuel listed a w → wpAnyIn (wf ro) n P md ops Q fuel listed a w
  | 0, listed, a, w, h => h
  | fuel + 1, listed, a, w, h => by
    unfold wpAny at h
    unfold wpAnyIn
    refine ⟨h.1, fun i hi => ?_⟩
    have h2 := h.2 i hi
    unfold wpOp at h2
    unfold wpOpIn
    cases ho : ops[i]? with
    | none =>
      rw [ho] at h2
      exact wpAny_in hn hQ fuel _ a w h2
    | some o =>
      rw [ho] at h2
      simp only at h2 ⊢
      by_cases hw : Region.wanted o (yielded ops a.tmps) = true
      · rw [if_pos hw] at h2 ⊢
        rcases h2 with h2 | ⟨_, h2⟩
        · exact Oper.wpIn_mono (fun a w h => wpAny_in hn hQ fuel _ a w h) (oper_in (hn i o ho) h2)
        · exact absurd h2 hQ
      · rw [if_neg hw] at h2 ⊢
        exact ⟨fun _ _ => trivial, wpAny_in hn hQ fuel _ _ w h2⟩
theorem awR_drawn {X : Ctx} {ro : Option Nat} {ops : Array Oper} {Q : Post} {T : Nat → AV} {H : AHeap} {id : Nat} (L : List (Nat × Nat)) (hm : X.P.follows .mixedOrders = true) (hn : ops.toList.all noDefer = true) (hQ : ∀ T H, ¬ Q .outgrown T H)
    (hok : regionOk X.N ops = true)
    (h : ∀ as_, ancs ops.toList = as_ → @ADf ⟨X⟩ ⟨ops⟩ ⟨fun s T' H' => (effsC (s.map (·.c)) as_ = true ∧ needs (s.map (·.c)) as_ = L) ∧ rds s H' L ∧ @PQ ⟨Q⟩ ⟨.normal⟩ ⟨T'⟩ H'⟩ ⟨ops.toList⟩ ⟨[]⟩ ⟨T⟩ H) : AWR X ro [] (.region id ops true) Q T H := by
  obtain ⟨R, hT, hH, hq⟩ := run_drawF (P := X.P) (G := X.G) (N := X.N) (Q := Q) _ L hok rfl (h _ rfl)
  intro n E0 a w hG hs
  have h1 := wpAny_draw (Q := Q) R hT hH hq E0 a w hG ⟨hs.ex, hs.defers⟩
  have hn' : ∀ (i : Nat) (o : Oper), ops[i]? = some o → noDefer o = true := fun i o ho => by
    rw [List.all_eq_true] at hn
    exact hn o (by rw [← Array.getElem?_toList] at ho; exact List.mem_of_getElem? ho)
  have hno : ¬ LetsOut (lift Q E0 X.N) := fun ⟨_, _, T', H', q, _⟩ => hQ T' H' q
  refine wpIn_mono (wpIn_region_any hm (wpAny_in (ro := ro) (n := n) hn' hno _ _ _ _ h1)) ?_
  rintro e a' w' ⟨T', H', q, s⟩
  exact ⟨T', H', q, s.ex, s.defers⟩

/-! ### the loop's record -/
structure LS where
  fn : FuncId
  tmps : Array Value
  ps : Array Tmp
  assign : Code
  body : Code
  D : Nat
def LS.lp (s : LS) (st : LoopState) (pe : Option Code) : Loop := { state := st, pending := pe, fn := s.fn, tmps := s.tmps, params := s.ps, assign := s.assign, body := s.body, defers := s.D }
/-- At rest, or left by a jump. -/
def LS.st (s : LS) : Option Code → Obj
  | none => .loop (s.lp .ready none)
  | some c => .loop (s.lp .done (some c))

structure Px (l : Nat) (E E' : Env) : Prop where
  φ : ∀ i p, E.φ i = some p → E'.φ i = some p
  K : ∀ B o, E.K B = some o → E'.K B = some o
  F : ∀ B, B ≠ l → E'.F B = E.F B
  os : E'.os = E.os
  out : E'.out = E.out
theorem Px.refl (l : Nat) (E : Env) : Px l E E := ⟨fun _ _ h => h, fun _ _ h => h, fun _ _ => rfl, rfl, rfl⟩
theorem Px.trans {l : Nat} {A B C : Env} (h : Px l A B) (k : Px l B C) : Px l A C := ⟨fun i p x => k.φ i p (h.φ i p x), fun i p x => k.K i p (h.K i p x), fun b hb => (k.F b hb).trans (h.F b hb), k.os.trans h.os, k.out.trans h.out⟩
theorem Px.of {l : Nat} {A B : Env} (k : Ext A B) : Px l A B := ⟨k.φ, k.K, fun b _ => by rw [k.F], k.os, k.out⟩
theorem Px.knows {l : Nat} {A B : Env} (h : Px l A B) : Knows A B := ⟨h.φ, h.K⟩

/-- The block l of the frame turns. -/
def Env.turn (E : Env) (l : Nat) (o : Obj) : Env := { E with F := fun B => if B = l then some o else E.F B }
theorem Env.turn_px (E : Env) (l : Nat) (o : Obj) : Px l E (E.turn l o) := ⟨fun _ _ h => h, fun _ _ h => h, fun B hB => by simp [Env.turn, hB], rfl, rfl⟩
theorem Env.turn_F (E : Env) (l : Nat) (o : Obj) : (E.turn l o).F l = some o := by simp [Env.turn]
theorem Rel.turn {E : Env} {H : AHeap} {w : World} {l : Nat} {o o' : Obj} (h : Rel E H w) (hl : E.F l = some o) : Rel (E.turn l o') H (w.putObj l o') := by
  have hw := h.F l o hl
  have hlt := (Array.getElem?_eq_some_iff.1 hw).1
  have hK : E.K l = none := (h.KF l).resolve_right (by rw [hl]; simp)
  have hkn : Knows E (E.turn l o') := (E.turn_px l o').knows
  refine ⟨h.os, h.out, fun B q hB => ?_, fun B q hB => ?_, fun B => ?_, h.dom, fun i x hi => ?_, h.inj⟩
  · have hB' : E.K B = some q := hB
    have : B ≠ l := fun e => by rw [e, hK] at hB'; cases hB'
    exact (World.putObj_heap_other this).trans (h.K B q hB')
  · simp only [Env.turn] at hB
    split at hB
    · rename_i e
      cases hB
      rw [e]
      exact World.putObj_heap_same hlt
    · rename_i e
      exact (World.putObj_heap_other e).trans (h.F B q hB)
  · simp only [Env.turn]
    by_cases e : B = l
    · subst e; exact .inl hK
    · simp only [e, if_false]; exact h.KF B
  · obtain ⟨p, ob, g1, g2, g3, g4, g5⟩ := h.live i x hi
    have e : p.b ≠ l := fun e => by rw [e, hl] at g3; cases g3
    exact ⟨p, ob, g1, g2, by simp [Env.turn, e, g3], (World.putObj_heap_other e).trans g4, g5.mono hkn⟩

/-- A block of another kind is laid. -/
theorem Rel.lay {E : Env} {H : AHeap} {w : World} (h : Rel E H w) (o : Obj) : Rel (E.turn w.heap.size o) H (w.alloc o) := by
  have hsz : ∀ B q, w.heap[B]? = some q → B ≠ w.heap.size := fun B q hb e => by
    rw [e, Array.getElem?_eq_none (Nat.le_refl _)] at hb; cases hb
  have hold : ∀ B q, w.heap[B]? = some q → (w.alloc o).heap[B]? = some q := fun B q hb => by
    have hlt := (Array.getElem?_eq_some_iff.1 hb).1
    show (w.heap.push o)[B]? = some q
    simp [Array.getElem?_push, Nat.ne_of_lt hlt, hb]
  have hkn : Knows E (E.turn w.heap.size o) := (E.turn_px _ o).knows
  refine ⟨h.os, h.out, fun B q hB => hold B q (h.K B q hB), fun B q hB => ?_, fun B => ?_, h.dom, fun i x hi => ?_, h.inj⟩
  · simp only [Env.turn] at hB
    split at hB
    · rename_i e
      cases hB
      rw [e]
      exact World.alloc_heap_new w o
    · exact hold B q (h.F B q hB)
  · by_cases e : B = w.heap.size
    · left
      cases hk : E.K B with
      | none => simpa [Env.turn] using hk
      | some q => exact absurd e (hsz B q (h.K B q hk))
    · simp only [Env.turn, e, if_false]; exact h.KF B
  · obtain ⟨p, ob, g1, g2, g3, g4, g5⟩ := h.live i x hi
    exact ⟨p, ob, g1, g2, by simp [Env.turn, hsz _ _ g4, g3], hold _ _ g4, g5.mono hkn⟩

/-- The frame as it was. -/
theorem Rel.unframe {E : Env} {H : AHeap} {w : World} (h : Rel E H w) (F0 : Nat → Option Obj) (hF : ∀ B o, F0 B = some o → E.F B = some o) : Rel { E with F := F0 } H w := by
  have hkn : Knows E { E with F := F0 } := ⟨fun _ _ h => h, fun _ _ h => h⟩
  have hno : ∀ B, E.F B = none → F0 B = none := fun B hB => by
    cases hb : F0 B with
    | none => rfl
    | some o => rw [hF B o hb] at hB; cases hB
  refine ⟨h.os, h.out, h.K, fun B o hB => h.F B o (hF B o hB), fun B => (h.KF B).imp id (hno B), h.dom, fun i x hi => ?_, h.inj⟩
  obtain ⟨p, ob, g1, g2, g3, g4, g5⟩ := h.live i x hi
  exact ⟨p, ob, g1, g2, hno _ g3, g4, g5.mono hkn⟩
/-- A block is no longer framed, and may turn. -/
theorem Rel.forget {E : Env} {H : AHeap} {w : World} (h : Rel E H w) {l : Nat} {o : Obj} (hl : E.F l = some o) (o' : Obj) (F0 : Nat → Option Obj) (hF : ∀ B o, F0 B = some o → B ≠ l ∧ E.F B = some o) : Rel { E with F := F0 } H (w.putObj l o') := by
  have h1 := (h.turn (o' := o') hl).unframe F0 (fun B q hB => by
    obtain ⟨k1, k2⟩ := hF B q hB
    simp [Env.turn, k1, k2])
  exact h1

/-! ### a round -/
/-- By which way a round's body is left. -/
def tagOf : Exit → Option Code
  | .ret => some .ret
  | .exit i => some (.exit i)
  | .goto t => some (.goto t)
  | _ => none
def soft : Exit → Bool
  | .panic _ => false
  | .outgrown => false
  | _ => true
/-- The temporaries of a round. -/
def tputs (T : Nat → AV) : List (Tmp × AV) → Nat → AV
  | [] => T
  | (p, v) :: r => tputs (tput T (some p) v) r
theorem tputs_rel {E : Env} {N : Nat} : ∀ {l : List (Tmp × AV)} {vs : List (Tmp × Value)} {T : Nat → AV} {tmps : Array Value}, TRel E N T tmps → l.map Prod.fst = vs.map Prod.fst → VRels E (l.map Prod.snd) (vs.map Prod.snd) → (∀ p ∈ l, p.1 < N) →
    TRel E N (tputs T l) (vs.foldl (fun t pv => t.setIfInBounds pv.1 pv.2) tmps)
  | [], [], T, tmps, h, h1, h2, h3 => h
  | [], _ :: _, T, tmps, h, h1, h2, h3 => by simp at h1
  | _ :: _, [], T, tmps, h, h1, h2, h3 => by simp at h1
  | (p, v) :: l, (q, u) :: vs, T, tmps, h, h1, h2, h3 => by
    simp only [List.map_cons, List.cons.injEq] at h1
    obtain ⟨rfl, h1⟩ := h1
    simp only [List.map_cons] at h2
    cases h2 with | cons k1 k2 =>
    exact tputs_rel (T := tput T (some p) v) (tmps := tmps.setIfInBounds p u) (h.put (a := { tmps := tmps, defers := [] }) (some p) k1 (fun k hk => by cases hk; exact h3 (p, v) (by simp))) h1 k2 (fun x hx => h3 x (by simp [hx]))

/-- A call of yield: what it runs to, and the round's contract. -/
def YieldC (m : Nat) (P : Program) (l : Nat) (args : Array Value) (W : World) (R : Ending → World → Prop) : Prop :=
  ∃ fn tmps assign body, (Instr.yield l args).run P W = .ok (.round l fn tmps assign body) W ∧ RoundIn Fence.wide m P l fn tmps assign body W R
/-- A round: at this heap, these arguments. -/
def RoundC (P : Program) (G : Nat → Option AV) (s : LS) (l : Nat) (Eb : Env) (args : List AV) (H : AHeap) (K : Option Code → AHeap → Prop) : Prop :=
  ∀ n E w (vs : List Value), Px l Eb E → GRel E G → Rel E H w → E.F l = some (s.st none) → VRels E args vs →
    YieldC n P l vs.toArray w fun e w' => ∃ H' E' tag, e = .returned (.bool tag.isNone) ∧ K tag H' ∧ Px l E E' ∧ Rel E' H' w' ∧ E'.F l = some (s.st tag)

theorem round_of {X : Ctx} {s : LS} {l : Nat} {Eb : Env} {T : Nat → AV} {args : List AV} {H : AHeap} {K : Option Code → AHeap → Prop} {Qb : Post} (hT : TRel Eb X.N T s.tmps) (ha : args.length = s.ps.size) (hp : ∀ p ∈ s.ps.toList, p < X.N) 
    (h : AWR X (some l) [] s.assign (QThen (fun T1 H1 => AWR X (some l) [] s.body Qb T1 H1) (fun _ _ _ => False)) (tputs T (s.ps.toList.zip args)) H) (hQ : ∀ e T' H', Qb e T' H' → soft e = true ∧ K (tagOf e) H') : RoundC X.P X.G s l Eb args H K := by
  intro n E w vs hpx hG hR hF hv
  have hvl := hv.length
  have hw := hR.F _ _ hF
  have hy := run_yield (P := X.P) (args := vs.toArray) hw (by simp [LS.lp]; omega)
  refine ⟨_, _, _, _, hy, ?_⟩
  have hT1 : TRel E X.N (tputs T (s.ps.toList.zip args)) ((s.ps.zip vs.toArray).foldl (fun tmps (t, a) => tmps.setIfInBounds t a) s.tmps) := by
    have := tputs_rel (l := s.ps.toList.zip args) (vs := s.ps.toList.zip vs) (hT.mono hpx.knows) (by
      rw [List.map_fst_zip (by simp; omega), List.map_fst_zip (by simp; omega)]) (by
      rw [List.map_snd_zip (by simp; omega), List.map_snd_zip (by simp; omega)]; exact hv) (fun p h => hp p.1 (List.of_mem_zip h).1)
    rw [← Array.foldl_toList, Array.toList_zip]
    exact this
  refine roundIn_of_wpIn trivial ?_
  have h1 := h n E { tmps := (s.ps.zip vs.toArray).foldl (fun tmps (t, a) => tmps.setIfInBounds t a) s.tmps, defers := [] } w hG ⟨⟨E, Ext.refl E, hR, hT1⟩, rfl⟩
  refine wpIn_mono (show s.assign.wpIn (Fence.wide.inRound l) n X.P _ _ w from h1) ?_
  rintro e a1 w1 ⟨T1, H1, q, ⟨E1, x1, R1, t1⟩, d1⟩
  cases e with
  | normal =>
    have f1 : E1.F l = some (s.st none) := by rw [x1.F]; exact hF
    have hw1 := R1.F _ _ f1
    refine ⟨_, run_beginRound hw1 rfl, ?_⟩
    have R2 := R1.turn (o' := .loop (s.lp .busy none)) f1
    have p2 : Px l E (E1.turn l (.loop (s.lp .busy none))) := (Px.of x1).trans (E1.turn_px _ _)
    have h2 := q n (E1.turn l (.loop (s.lp .busy none))) a1 _ (hG.mono p2.knows) ⟨⟨_, Ext.refl _, R2, t1.mono (E1.turn_px _ _).knows⟩, d1⟩
    refine wpIn_mono (show s.body.wpIn (Fence.wide.inRound l) n X.P _ a1 _ from h2) ?_
    rintro e2 a3 w3 ⟨T3, H3, q3, ⟨E3, x3, R3, t3⟩, d3⟩
    obtain ⟨hs, hK⟩ := hQ _ _ _ q3
    have f3 : E3.F l = some (.loop (s.lp .busy none)) := by rw [x3.F]; exact E1.turn_F _ _
    have hw3 := R3.F _ _ f3
    have fin : ∀ tag : Option Code, K tag H3 → ∃ v w', (Instr.endRound l tag).run X.P w3 = .ok v w' ∧ ∃ H' E' tag, Ending.returned v = .returned (.bool tag.isNone) ∧ K tag H' ∧ Px l E E' ∧ Rel E' H' w' ∧ E'.F l = some (s.st tag) := fun tag hk => by
      refine ⟨_, _, run_endRound tag hw3, H3, E3.turn l (s.st tag), tag, rfl, hk, (p2.trans (Px.of x3)).trans (E3.turn_px _ _), ?_, E3.turn_F _ _⟩
      have := R3.turn (o' := s.st tag) f3
      cases tag <;> exact this
    cases e2 with
    | normal => exact fin none hK
    | ret => exact fin (some .ret) hK
    | exit i => exact fin (some (.exit i)) hK
    | goto t => exact fin (some (.goto t)) hK
    | panic c => cases hs
    | outgrown => cases hs
  | exit id => exact False.elim q
  | goto t => exact False.elim q
  | ret => exact False.elim q
  | panic c => exact False.elim q
  | outgrown => exact False.elim q

/-! ### the iterator -/
abbrev PostP := Exit → (Nat → AV) → AHeap → Option Code → Prop
structure StP (s : LS) (l : Nat) (Eb : Env) (N : Nat) (T : Nat → AV) (H : AHeap) (tag : Option Code) (a : Act) (w : World) : Prop where
  ex : ∃ E, Px l Eb E ∧ Rel E H w ∧ TRel E N T a.tmps ∧ E.F l = some (s.st tag)
  defers : a.defers = []
def liftP (s : LS) (l : Nat) (Eb : Env) (Q : PostP) (N : Nat) : Exit → Act → World → Prop := fun e a w => ∃ T H tag, Q e T H tag ∧ StP s l Eb N T H tag a w

/-- Code of an iterator, which calls yield. -/
def AWP (X : Ctx) (s : LS) (l : Nat) (Eb : Env) (c : Code) (Q : PostP) (T : Nat → AV) (H : AHeap) (tag : Option Code) : Prop :=
  ∀ n a w, StP s l Eb X.N T H tag a w → c.wpIn Fence.wide n X.P (liftP s l Eb Q X.N) a w
def ALP (X : Ctx) (s : LS) (l : Nat) (Eb : Env) (ops : Array Oper) (os : List Oper) (Q : PostP) (T : Nat → AV) (H : AHeap) (tag : Option Code) : Prop :=
  ∀ n a w, StP s l Eb X.N T H tag a w → wpListIn Fence.wide n X.P ops (liftP s l Eb Q X.N) os a w
def PThen (K : (Nat → AV) → AHeap → Option Code → Prop) (Q : PostP) : PostP
  | .normal, T, H, t => K T H t
  | e, T, H, t => Q e T H t
def PBlock (id : Nat) (Q : PostP) : PostP
  | .exit id', T, H, t => if id' = id then Q .normal T H t else Q (.exit id') T H t
  | e, T, H, t => Q e T H t

section
variable {X : Ctx} {s : LS} {l : Nat} {Eb : Env} {Q : PostP} {T : Nat → AV} {H : AHeap} {tag : Option Code}

theorem AWP.mono {c : Code} {Q' : PostP} (h : AWP X s l Eb c Q T H tag) (hq : ∀ e T H t, Q e T H t → Q' e T H t) : AWP X s l Eb c Q' T H tag :=
  fun n a w hs => wpIn_mono (h n a w hs) fun _ _ _ ⟨T', H', t', q, s'⟩ => ⟨T', H', t', hq _ _ _ _ q, s'⟩
theorem awp_aw {c : Code} (hG : GRel Eb X.G) (h : AW X.P X.G X.N c (fun e T' H' => Q e T' H' tag) T H) : AWP X s l Eb c Q T H tag := by
  rintro n a w ⟨⟨E, hx, hR, hT, hF⟩, hd⟩
  refine wpIn_wide.2 (wp_mono (h E a w (hG.mono hx.knows) ⟨⟨E, Ext.refl E, hR, hT⟩, hd⟩) ?_)
  rintro e a' w' ⟨T', H', q, ⟨E', x', R', t'⟩, d'⟩
  exact ⟨T', H', tag, q, ⟨E', hx.trans (Px.of x'), R', t', by rw [x'.F]; exact hF⟩, d'⟩
theorem awp_seq {x y : Code} (h : AWP X s l Eb x (PThen (fun T H t => AWP X s l Eb y Q T H t) Q) T H tag) : AWP X s l Eb (.seq x y) Q T H tag := by
  intro n a w hs
  refine wpIn_seq (wpIn_mono (h n a w hs) ?_)
  rintro e a' w' ⟨T', H', t', q, s'⟩
  cases e with
  | normal => exact q n a' w' s'
  | exit id => exact ⟨T', H', t', q, s'⟩
  | goto t => exact ⟨T', H', t', q, s'⟩
  | ret => exact ⟨T', H', t', q, s'⟩
  | panic c => exact ⟨T', H', t', q, s'⟩
  | outgrown => exact ⟨T', H', t', q, s'⟩
theorem awp_cond {c : Operand} {x y : Code} {b : Bool} (hG : GRel Eb X.G) (hc : aval X.G T c = some (.bool b)) (h : AWP X s l Eb (if b then x else y) Q T H tag) : AWP X s l Eb (.cond c x y) Q T H tag := by
  rintro n a w ⟨⟨E, hx, hR, hT, hF⟩, hd⟩
  have := hT.operands (hG.mono hx.knows) [c] c (by simp) _ hc
  have e : a.eval c = .bool b := by generalize a.eval c = v at this; cases this; rfl
  exact wpIn_cond e (h n a w ⟨⟨E, hx, hR, hT, hF⟩, hd⟩)
theorem awp_block {id : Nat} {c : Code} (h : AWP X s l Eb c (PBlock id Q) T H tag) : AWP X s l Eb (.block id c) Q T H tag := by
  intro n a w hs
  refine wpIn_block (wpIn_mono (h n a w hs) ?_)
  rintro e a' w' ⟨T', H', t', q, s'⟩
  cases e with
  | exit id' =>
    simp only [PBlock] at q
    simp only [Exit.inBlock]
    split at q
    · rename_i hid; rw [if_pos hid]; exact ⟨T', H', t', q, s'⟩
    · rename_i hid; rw [if_neg hid]; exact ⟨T', H', t', q, s'⟩
  | normal => exact ⟨T', H', t', q, s'⟩
  | goto t => exact ⟨T', H', t', q, s'⟩
  | ret => exact ⟨T', H', t', q, s'⟩
  | panic c => exact ⟨T', H', t', q, s'⟩
  | outgrown => exact ⟨T', H', t', q, s'⟩
theorem awp_skip (h : Q .normal T H tag) : AWP X s l Eb .skip Q T H tag := fun n a w hs => wpIn_skip ⟨T, H, tag, h, hs⟩
theorem awp_ret (h : Q .ret T H tag) : AWP X s l Eb .ret Q T H tag := fun n a w hs => wpIn_ret ⟨T, H, tag, h, hs⟩
theorem awp_exit {id : Nat} (h : Q (.exit id) T H tag) : AWP X s l Eb (.exit id) Q T H tag := fun n a w hs => wpIn_exit ⟨T, H, tag, h, hs⟩
theorem exists_min {p : Nat → Prop} (h : ∃ n, p n) : ∃ n, p n ∧ ∀ m, p m → n ≤ m := by
  obtain ⟨n, hn⟩ := h
  induction n using Nat.strongRecOn with
  | _ n ih =>
    by_cases hm : ∃ m, m < n ∧ p m
    · obtain ⟨m, h1, h2⟩ := hm
      exact ih m h1 h2
    · exact ⟨n, hn, fun m h => Nat.le_of_not_lt fun hl => hm ⟨m, hl, h⟩⟩
open Classical in
noncomputable def muOf (J : Nat → Prop) : Nat := if h : ∃ m, J m then Classical.choose (exists_min h) else 0
theorem muOf_spec {J : Nat → Prop} (h : ∃ m, J m) : J (muOf J) ∧ ∀ m, J m → muOf J ≤ m := by
  unfold muOf
  rw [dif_pos h]
  exact Classical.choose_spec (exists_min h)
theorem awp_loop {c : Code} (I : Nat → (Nat → AV) → AHeap → Option Code → Prop) (m : Nat) (h0 : I m T H tag)
    (round : ∀ m T H t, I m T H t → AWP X s l Eb c (PThen (fun T' H' t' => ∃ k, k < m ∧ I k T' H' t') Q) T H t) : AWP X s l Eb (.loop c) Q T H tag := by
  intro n a w hs
  obtain ⟨J, hJ⟩ : ∃ J : Act → World → Nat → Prop, J = fun a w m => ∃ T H t, I m T H t ∧ StP s l Eb X.N T H t a w := ⟨_, rfl⟩
  have hJ0 : ∃ m, J a w m := ⟨m, by rw [hJ]; exact ⟨T, H, tag, h0, hs⟩⟩
  refine wpIn_loop (fun a w => ∃ m, J a w m) (fun a w => muOf (J a w)) hJ0 ?_
  intro a w hI
  have hm := (muOf_spec hI).1
  generalize hk : muOf (J a w) = m at hm
  rw [hJ] at hm
  obtain ⟨T, H, t, hi, hs⟩ := hm
  refine wpIn_mono (round m T H t hi n a w hs) ?_
  rintro e a' w' ⟨T', H', t', q, s'⟩
  cases e with
  | normal =>
    obtain ⟨k, hlt, q⟩ := q
    have hx : J a' w' k := by rw [hJ]; exact ⟨T', H', t', q, s'⟩
    refine ⟨⟨k, hx⟩, ?_⟩
    exact Nat.lt_of_le_of_lt ((muOf_spec ⟨k, hx⟩).2 k hx) hlt
  | exit id => exact ⟨T', H', t', q, s'⟩
  | goto t => exact ⟨T', H', t', q, s'⟩
  | ret => exact ⟨T', H', t', q, s'⟩
  | panic c => exact ⟨T', H', t', q, s'⟩
  | outgrown => exact ⟨T', H', t', q, s'⟩
theorem awp_region {id : Nat} {ops : List Oper} (h : ALP X s l Eb ops.toArray ops Q T H tag) : AWP X s l Eb (.region id ops.toArray false) Q T H tag :=
  fun n a w hs => wpIn_region_lit (h n a w hs)
theorem alp_nil {ops : Array Oper} (h : Q .normal T H tag) : ALP X s l Eb ops [] Q T H tag := fun n a w hs => ⟨T, H, tag, h, hs⟩
theorem alp_skip {ops : Array Oper} {o : Oper} {rest : List Oper} (hw : awanted ops T o = false) (hd : ∀ k, o.dst = some k → k < X.N) (h : ALP X s l Eb ops rest Q (tput T o.dst undefA) H tag) : ALP X s l Eb ops (o :: rest) Q T H tag := by
  rintro n a w ⟨⟨E, hx, hR, hT, hF⟩, hdf⟩
  rw [wpListIn_cons, awanted_eq hT, hw]
  exact ⟨fun _ _ => trivial, h n _ w ⟨⟨E, hx, hR, hT.put o.dst (undef_rel E) hd, hF⟩, (put_dfs _ _ _).trans hdf⟩⟩
theorem alp_op {ops : Array Oper} {o : Oper} {rest : List Oper} {v : AV} {eff : AEff} (hG : GRel Eb X.G) (hw : awanted ops T o = true) (hn : noDefer o = true) (hd : ∀ k, o.dst = some k → k < X.N) (ho : aop X.P (aval X.G T) H.get H.next o = some (v, eff))
    (h : ALP X s l Eb ops rest Q (tput T o.dst v) (H.eff eff) tag) : ALP X s l Eb ops (o :: rest) Q T H tag := by
  rintro n a w ⟨⟨E, hx, hR, hT, hF⟩, hdf⟩
  rw [wpListIn_cons, awanted_eq hT, hw, if_pos rfl]
  obtain ⟨E', u, w', g1, g2, g3, g4⟩ := aop_sound hR (hT.operands (hG.mono hx.knows) o.op.operands.toList) ho
  exact wpIn_of_run (ro := none) hn g4 (h n _ w' ⟨⟨E', hx.trans (Px.of g1), g3, (hT.mono g1.knows).put o.dst g2 hd, by rw [g1.F]; exact hF⟩, (put_dfs _ _ _).trans hdf⟩)
theorem alp_call {ops : Array Oper} {o : Oper} {rest : List Oper} {f : FuncId} {args : List AV} (hG : GRel Eb X.G) (hw : awanted ops T o = true) (hn : noDefer o = true) (hd : ∀ k, o.dst = some k → k < X.N) (hc : acallee (aval X.G T) o = some (f, args))
    (h : Does X.P X.G f args H fun r H' => ALP X s l Eb ops rest Q (tput T o.dst r) H' tag) : ALP X s l Eb ops (o :: rest) Q T H tag := by
  rintro n a w ⟨⟨E, hx, hR, hT, hF⟩, hdf⟩
  rw [wpListIn_cons, awanted_eq hT, hw, if_pos rfl]
  obtain ⟨vs, g1, g2⟩ := call_run (P := X.P) (w := w) (hG.mono hx.knows) hT hc
  have hcl := h.run E w vs.toList hR (hG.mono hx.knows) g1
  rw [Array.toArray_toList] at hcl
  refine wpIn_of_call (ro := none) hn g2 hcl ?_
  rintro v w' ⟨r', H', E', k1, k2, k3, k4⟩
  exact k1 n _ w' ⟨⟨E', hx.trans (Px.of k2), k4, (hT.mono k2.knows).put o.dst k3 hd, by rw [k2.F]; exact hF⟩, (put_dfs _ _ _).trans hdf⟩

/-- A call of yield: what it calls with. -/
def ayieldc (ρ : Operand → Option AV) (l : Nat) (o : Oper) : Option (List AV) := match o.op with
  | .call c => match c.callee with
    | .value f => match ρ f, avals ρ c.args.toList with
      | some (.func (.yield k) [] []), some args => if k = l then some args else none
      | _, _ => none
    | _ => none
  | _ => none
theorem alp_yield {ops : Array Oper} {o : Oper} {rest : List Oper} {args : List AV} {K : Option Code → AHeap → Prop} (hG : GRel Eb X.G) (hw : awanted ops T o = true) (hd : ∀ k, o.dst = some k → k < X.N) (hc : ayieldc (aval X.G T) l o = some args) (ht : tag = none)
    (hY : RoundC X.P X.G s l Eb args H K) (h : ∀ tag' H', K tag' H' → ALP X s l Eb ops rest Q (tput T o.dst (.bool tag'.isNone)) H' tag') : ALP X s l Eb ops (o :: rest) Q T H tag := by
  rintro n a w ⟨⟨E, hx, hR, hT, hF⟩, hdf⟩
  subst ht
  rw [wpListIn_cons, awanted_eq hT, hw, if_pos rfl]
  obtain ⟨dst, op, ty, pos, after, guard⟩ := o
  unfold ayieldc at hc
  cases op <;> simp only at hc <;> try (simp at hc; done)
  rename_i c
  obtain ⟨callee, cargs, argTypes⟩ := c
  cases callee <;> simp only at hc <;> try (simp at hc; done)
  rename_i fo
  split at hc <;> try (simp at hc; done)
  rename_i k as_ hf has
  split at hc <;> try (simp at hc; done)
  rename_i hkl
  subst hkl
  simp only [Option.some.injEq] at hc
  subst hc
  have hops := hT.operands (hG.mono hx.knows) (fo :: cargs.toList)
  have hfv := hops fo (by simp) _ hf
  have hargs := avals_sound (E := E) (σ := a.eval) (fun x hx => hops x (by simp [hx])) has
  generalize hfe : a.eval fo = fv at hfv
  cases hfv with | func hf1 hc1 =>
  rename_i f2 c2
  cases f2 with | mk f2 =>
  cases c2 with | mk c2 =>
  cases hf1
  cases hc1
  have hargs2 : VRels E as_ (cargs.map a.eval).toList := by rw [Array.toList_map]; exact hargs
  obtain ⟨fn, tmps, assign, body, hy, hr⟩ := hY (n - 1) E w _ hx (hG.mono hx.knows) hR hF hargs2
  rw [Array.toArray_toList] at hy
  have hrun : (execOp a.eval { dst, op := .call { callee := .value fo, args := cargs, argTypes }, type := ty, pos, after, guard }).run X.P w = .ok (.round k fn tmps assign body) w := by
    rw [← hy]
    simp [execOp, resolve, hfe, Deferred.ofValue, invoke]
  refine ⟨fun _ _ => trivial, ?_⟩
  rw [noDefer_sem (o := { dst, op := .call { callee := .value fo, args := cargs, argTypes }, type := ty, pos, after, guard }) rfl, hrun, Oper.uponIn_round]
  refine ⟨fun q => wf_depth none q, hr.mono ?_⟩
  rintro e w' ⟨H', E', tag', rfl, k1, k2, k3, k4⟩
  exact h tag' H' k1 n _ w' ⟨⟨E', hx.trans k2, k3, (hT.mono k2.knows).put dst (.bool _) hd, k4⟩, (put_dfs _ _ _).trans hdf⟩

/-- An iterator, from its body. -/
theorem iter_of {f : FuncId} {fn : Func} {c : Code} {args : List AV} {K : Option Code → AHeap → Prop} (hf : X.P.funcs[f]? = some fn) (hb : fn.body = some c) (hr : fn.results = #[]) (hN : fn.ntmps = X.N) (hn : args.length ≤ fn.ntmps)
    (h : AWP X s l Eb c (fun e _ H' t => (e = .normal ∨ e = .ret) ∧ K t H') (fun t => args.getD t undefA) H tag) :
    ∀ n w (vs : List Value), Rel Eb H w → Eb.F l = some (s.st tag) → VRels Eb args vs → CallsIn Fence.wide n X.P f vs.toArray w fun e w' => (∃ v, e = .returned v) ∧ ∃ H' E' t', K t' H' ∧ Px l Eb E' ∧ Rel E' H' w' ∧ E'.F l = some (s.st t') := by
  intro n w vs hR hF hv
  have hvl := hv.length
  have hT : TRel Eb X.N (fun t => args.getD t undefA) (vs.toArray ++ Array.replicate (fn.ntmps - vs.toArray.size) undef) := by
    refine ⟨by simp; omega, fun t => ?_⟩
    have e : (vs.toArray ++ Array.replicate (fn.ntmps - vs.toArray.size) undef).getD t undef = vs.getD t undef := by
      simp only [Array.getD_eq_getD_getElem?, List.getD, Array.getElem?_append]
      by_cases ht : t < vs.length
      · simp [ht]
      · simp [ht, Array.getElem?_replicate]
        split <;> rfl
    rw [e]
    exact hv.getD t (undef_rel Eb)
  refine callsIn_of_wp hf hb trivial (wpIn_mono (h n _ w ⟨⟨Eb, Px.refl l Eb, hR, hT, hF⟩, rfl⟩) ?_)
  rintro e a' w' ⟨T', H', t', ⟨he, hk⟩, ⟨E', x', R', q', F'⟩, d'⟩
  obtain ⟨v, _, g2⟩ := ares_sound (P := X.P) (fn := fn) (r := .tuple []) R' q' (by rw [hr]; rfl)
  rcases he with rfl | rfl
  · exact ⟨d', v, g2, ⟨v, rfl⟩, H', E', t', hk, x', R', F'⟩
  · exact ⟨d', v, g2, ⟨v, rfl⟩, H', E', t', hk, x', R', F'⟩
end

/-! ### the statement, and the function that holds it -/
def markD (D : Nat) : List Deferred := [{ target := .collected D, args := #[] }]
/-- The function's frame behind a range over a function. -/
structure StQ (D : Nat) (E0 : Env) (N : Nat) (T : Nat → AV) (H : AHeap) (a : Act) (w : World) : Prop where
  ex : ∃ E, Knows E0 E ∧ E.os = E0.os ∧ E.out = E0.out ∧ (∀ B o, E0.F B = some o → B ≠ D ∧ E.F B = some o) ∧ E.F D = some (.deferred (some [])) ∧ Rel E H w ∧ TRel E N T a.tmps
  defers : a.defers = markD D
def exOf : Option Code → Exit
  | some .ret => .ret
  | some (.exit i) => .exit i
  | some (.goto t) => .goto t
  | _ => .normal
def tagOk : Option Code → Bool
  | none => true
  | some .ret => true
  | some (.exit _) => true
  | some (.goto _) => true
  | _ => false

section
variable {X : Ctx} {T : Nat → AV} {H : AHeap}

theorem range_of {g : Operand} {ps : Array Tmp} {assign body : Code} {gf : FuncId} {cap : List AV} {K : Option Code → AHeap → Prop} (hg : aval X.G T g = some (.func (.func gf) [] cap)) (he : Enters X.P gf) (hK : ∀ t H', K t H' → tagOk t = true)
    (hI : ∀ (s : LS) (l : Nat) (Eb : Env), s.ps = ps → s.assign = assign → s.body = body → GRel Eb X.G → TRel Eb X.N T s.tmps → ∀ n w (vs : List Value), Rel Eb H w → Eb.F l = some (s.st none) → VRels Eb (.func (.yield l) [] [] :: cap) vs →
      CallsIn Fence.wide n X.P gf vs.toArray w fun e w' => (∃ v, e = .returned v) ∧ ∃ H' E' t', K t' H' ∧ Px l Eb E' ∧ Rel E' H' w' ∧ E'.F l = some (s.st t')) :
    ∀ n E0 a w, GRel E0 X.G → St E0 X.N T H a w → (Code.rangeFunc g ps assign body).wpIn Fence.wide n X.P (fun e a' w' => ∃ D H' t', K t' H' ∧ StQ D E0 X.N T H' a' w' ∧ e = exOf t') a w := by
  rintro n E0 a w hG ⟨⟨E, hx, hR, hT⟩, hd⟩
  have hgv := hT.operands (hG.mono hx.knows) [g] g (by simp) _ hg
  generalize hfe : a.eval g = fv at hgv
  cases hgv with | func hf1 hc1 =>
  rename_i f2 c2
  cases f2 with | mk f2 =>
  cases hf1
  have he' : ∀ args w, (callFunc gf args).run X.P w = .ok (.enter gf args) w := he
  refine wpIn_rangeFunc ?_
  intro fn _
  obtain ⟨s, hs⟩ : ∃ s : LS, s = { fn, tmps := a.tmps, ps, assign, body, D := w.heap.size } := ⟨_, rfl⟩
  have R1 := hR.lay (.deferred (some []))
  have R2 := R1.lay (s.st none)
  rw [World.size_alloc] at R2
  have p1 := E.turn_px w.heap.size (.deferred (some []))
  have p2 := (E.turn w.heap.size (.deferred (some []))).turn_px (w.heap.size + 1) (s.st none)
  have k2 := p1.knows.trans p2.knows
  have hF2 := (E.turn w.heap.size (.deferred (some []))).turn_F (w.heap.size + 1) (s.st none)
  generalize hE2 : (E.turn w.heap.size (.deferred (some []))).turn (w.heap.size + 1) (s.st none) = E2 at R2 p2 k2 hF2
  have hFD : E2.F w.heap.size = some (.deferred (some [])) := by rw [← hE2]; simp [Env.turn]
  have hFo : ∀ B o, E0.F B = some o → B ≠ w.heap.size ∧ B ≠ w.heap.size + 1 ∧ E2.F B = some o := fun B o hB => by
    have hB' : E.F B = some o := by rw [hx.F]; exact hB
    have := (Array.getElem?_eq_some_iff.1 (hR.F B o hB')).1
    have e1 : B ≠ w.heap.size := by omega
    have e2 : B ≠ w.heap.size + 1 := by omega
    refine ⟨e1, e2, ?_⟩
    rw [← hE2]
    simp [Env.turn, e1, e2, hB']
  refine ⟨w.heap.size + 1, markD w.heap.size, (w.alloc (.deferred (some []))).alloc (s.st none), { target := .fn (.func gf) c2, args := #[.func (.yield (w.heap.size + 1)) #[] #[]] }, (w.alloc (.deferred (some []))).alloc (s.st none), gf,
    #[.func (.yield (w.heap.size + 1)) #[] #[]] ++ c2, (w.alloc (.deferred (some []))).alloc (s.st none), ?_, ?_, fun _ _ => trivial, ?_, fun q => wf_depth none q, ?_⟩
  · rw [hs]; exact run_enterLoop_outer _ _ _ _ _
  · simp only [resolve, hfe]
    simp [go_sem]
  · simp [invoke, go_sem, he']
  · have hv : VRels E2 (.func (.yield (w.heap.size + 1)) [] [] :: cap) (.func (.yield (w.heap.size + 1)) #[] #[] :: c2.toList) := .cons (.func .nil .nil) (hc1.mono k2)
    have hcall := hI s (w.heap.size + 1) E2 (by rw [hs]) (by rw [hs]) (by rw [hs]) ((hG.mono hx.knows).mono k2) (by rw [hs]; exact hT.mono k2) (n - 1) _ _ R2 hF2 hv
    have ev : (Value.func (.yield (w.heap.size + 1)) #[] #[] :: c2.toList).toArray = #[.func (.yield (w.heap.size + 1)) #[] #[]] ++ c2 := by simp
    rw [ev] at hcall
    refine hcall.mono ?_
    rintro e w2 ⟨⟨v, rfl⟩, H', E', t', hk, hp, R', F'⟩
    have hw2 := R'.F _ _ F'
    have key : ∀ (r : Loop), E'.F (w.heap.size + 1) = some (.loop r) → StQ w.heap.size E0 X.N T H' { a with defers := markD w.heap.size ++ a.defers } (w2.putObj (w.heap.size + 1) (.loop { r with state := .exhausted })) := fun r hr => by
      have k3 := k2.trans hp.knows
      refine ⟨⟨E'.turn (w.heap.size + 1) (.loop { r with state := .exhausted }), (hx.knows.trans k3).trans (E'.turn_px _ _).knows, ?_, ?_, fun B o hB => ?_, ?_, R'.turn hr, (hT.mono k3).mono (E'.turn_px _ _).knows⟩, by simp [hd]⟩
      · show E'.os = _
        rw [hp.os, ← hE2]
        exact hx.os
      · show E'.out = _
        rw [hp.out, ← hE2]
        exact hx.out
      · obtain ⟨e1, e2, e3⟩ := hFo B o hB
        refine ⟨e1, ?_⟩
        simp only [Env.turn, e2, if_false]
        rw [hp.F B e2]
        exact e3
      · have : w.heap.size ≠ w.heap.size + 1 := by omega
        simp only [Env.turn, this, if_false]
        rw [hp.F _ this]
        exact hFD
    cases t' with
    | none =>
      refine ⟨none, _, run_endLoop hw2 (by simp [LS.lp]), ?_⟩
      exact ⟨_, H', none, hk, key _ F', rfl⟩
    | some c =>
      refine ⟨some c, _, run_endLoop hw2 (by simp [LS.lp]), ?_⟩
      have hok := hK _ _ hk
      have hfin := key _ F'
      cases c <;> first | (cases hok; done) | skip
      · exact wpIn_exit ⟨_, H', _, hk, hfin, rfl⟩
      · exact wpIn_goto ⟨_, H', _, hk, hfin, rfl⟩
      · exact wpIn_ret ⟨_, H', _, hk, hfin, rfl⟩

/-- Code behind the statement. -/
theorem awr_behind {n D : Nat} {c : Code} {Q : Post} (hf : flatC c = true) (h : AWr X c Q T H) {E0 : Env} {a : Act} {w : World} (hG : GRel E0 X.G) (hs : StQ D E0 X.N T H a w) :
    c.wpIn Fence.wide n X.P (fun e a' w' => ∃ T' H', Q e T' H' ∧ StQ D E0 X.N T' H' a' w') a w := by
  obtain ⟨⟨E, k1, k2, k3, k4, k5, k6, k7⟩, hd⟩ := hs
  refine wpIn_mono (awR_flat (ro := none) (ds := markD D) hf h n E a w (hG.mono k1) ⟨⟨E, Ext.refl E, k6, k7⟩, hd⟩) ?_
  rintro e a' w' ⟨T', H', q, ⟨E', x', R', t'⟩, d'⟩
  exact ⟨T', H', q, ⟨E', k1.trans x'.knows, x'.os.trans k2, x'.out.trans k3, fun B o hB => ⟨(k4 B o hB).1, by rw [x'.F]; exact (k4 B o hB).2⟩, by rw [x'.F]; exact k5, R', t'⟩, d'⟩

/-- How a function's body that may hold such a statement ends. -/
def FQ (X : Ctx) (E0 : Env) (rs : List ResultVar) (R : AV → AHeap → Prop) : Exit → Act → World → Prop := fun e a w => (e = .normal ∨ e = .ret) ∧ ∃ T H, (∃ r, ares X.P T H.get rs = some r ∧ R r H) ∧ (St E0 X.N T H a w ∨ ∃ D, StQ D E0 X.N T H a w)

theorem does_marks {f : FuncId} {fn : Func} {c : Code} {args : List AV} {R : AV → AHeap → Prop} (he : Enters X.P f) (hf : X.P.funcs[f]? = some fn) (hb : fn.body = some c) (hN : fn.ntmps = X.N) (hn : args.length ≤ fn.ntmps)
    (h : ∀ E0 a w, GRel E0 X.G → St E0 X.N (fun t => args.getD t undefA) H a w → c.wpIn Fence.wide 0 X.P (FQ X E0 fn.results.toList R) a w) : Does X.P X.G f args H R := by
  refine ⟨fun E w vs hR hG hv => .inl ⟨he _ _, ?_⟩⟩
  have hvl := hv.length
  have hT : TRel E X.N (fun t => args.getD t undefA) (vs.toArray ++ Array.replicate (fn.ntmps - vs.toArray.size) undef) := by
    refine ⟨by simp; omega, fun t => ?_⟩
    have e : (vs.toArray ++ Array.replicate (fn.ntmps - vs.toArray.size) undef).getD t undef = vs.getD t undef := by
      simp only [Array.getD_eq_getD_getElem?, List.getD, Array.getElem?_append]
      by_cases ht : t < vs.length
      · simp [ht]
      · simp [ht, Array.getElem?_replicate]
        split <;> rfl
    rw [e]
    exact hv.getD t (undef_rel E)
  refine callsIn_wide.1 (callsIn_of_wp_marks hf hb trivial (wpIn_mono (h E _ w hG ⟨⟨E, Ext.refl E, hR, hT⟩, rfl⟩) ?_))
  rintro e a' w' ⟨he', T', H', ⟨r, hr, hRr⟩, hst⟩
  have key : LeavesInM Fence.wide 0 X.P fn a'.tmps (fun e w' => ∃ v, e = .returned v ∧ Ends E R v w') a'.defers .returning w' := by
    rcases hst with ⟨⟨E', hx, hR', hT'⟩, hdf⟩ | ⟨D, ⟨E', k1, k2, k3, k4, k5, k6, k7⟩, hdf⟩
    · obtain ⟨v, g1, g2⟩ := ares_sound hR' hT' hr
      rw [hdf]
      exact ⟨v, g2, v, rfl, r, H', E', hRr, hx, g1, hR'⟩
    · have R2 := k6.forget k5 (.deferred none) E.F k4
      have kn : Knows E' { E' with F := E.F } := ⟨fun _ _ h => h, fun _ _ h => h⟩
      obtain ⟨v, g1, g2⟩ := ares_sound R2 (k7.mono kn) hr
      rw [hdf]
      refine ⟨by simp, .inl ⟨D, _, rfl, run_takeDeferred (k6.F _ _ k5), ?_⟩⟩
      exact ⟨v, g2, v, rfl, r, H', { E' with F := E.F }, hRr, ⟨k1.φ, k1.K, rfl, k2, k3⟩, g1, R2⟩
  rcases he' with rfl | rfl
  · exact key
  · exact key
end

/-! ### walking by simp -/
section
variable {X : Ctx} {s : LS} {l : Nat} {Eb E0 : Env} {T : Nat → AV} {H : AHeap} {tag : Option Code}

theorem awR_flatf {ro : Option Nat} {ds : List Deferred} {c : Code} {Q : Post} (hf : flatC c = true) (h : @AWf ⟨X⟩ ⟨c⟩ ⟨Q⟩ ⟨T⟩ H) : AWR X ro ds c Q T H := awR_flat hf h

/-- A postcondition at one tag. -/
def PF (Q : PostP) (tag : Option Code) : Post := fun e T H => Q e T H tag
theorem awp_flat {c : Code} {Q : PostP} (hG : GRel Eb X.G) (h : @AWf ⟨X⟩ ⟨c⟩ ⟨PF Q tag⟩ ⟨T⟩ H) : AWP X s l Eb c Q T H tag := awp_aw hG (awf_of h)
@[simp] theorem pq_pf_then {K : (Nat → AV) → AHeap → Option Code → Prop} {Q : PostP} : @PQ ⟨PF (PThen K Q) tag⟩ ⟨.normal⟩ ⟨T⟩ H = K T H tag := Eq.trans rfl rfl
@[simp] theorem pq_pf_ret {K : (Nat → AV) → AHeap → Option Code → Prop} {Q : PostP} : @PQ ⟨PF (PThen K Q) tag⟩ ⟨.ret⟩ ⟨T⟩ H = @PQ ⟨PF Q tag⟩ ⟨.ret⟩ ⟨T⟩ H := Eq.trans rfl rfl
@[simp] theorem pq_pf_exit {K : (Nat → AV) → AHeap → Option Code → Prop} {Q : PostP} {i : Nat} : @PQ ⟨PF (PThen K Q) tag⟩ ⟨.exit i⟩ ⟨T⟩ H = @PQ ⟨PF Q tag⟩ ⟨.exit i⟩ ⟨T⟩ H := Eq.trans rfl rfl
@[simp] theorem pq_pf_block_normal {Q : PostP} {i : Nat} : @PQ ⟨PF (PBlock i Q) tag⟩ ⟨.normal⟩ ⟨T⟩ H = @PQ ⟨PF Q tag⟩ ⟨.normal⟩ ⟨T⟩ H := Eq.trans rfl rfl
@[simp] theorem pq_pf_block_ret {Q : PostP} {i : Nat} : @PQ ⟨PF (PBlock i Q) tag⟩ ⟨.ret⟩ ⟨T⟩ H = @PQ ⟨PF Q tag⟩ ⟨.ret⟩ ⟨T⟩ H := Eq.trans rfl rfl
@[simp] theorem pq_pf_block_exit {Q : PostP} {i j : Nat} : @PQ ⟨PF (PBlock i Q) tag⟩ ⟨.exit j⟩ ⟨T⟩ H = if j = i then @PQ ⟨PF Q tag⟩ ⟨.normal⟩ ⟨T⟩ H else @PQ ⟨PF Q tag⟩ ⟨.exit j⟩ ⟨T⟩ H := Eq.trans rfl rfl

/-- At the end of operations. -/
def PN (K : (Nat → AV) → AHeap → Prop) : Post := fun e T H => e = .normal ∧ K T H
@[simp] theorem pq_pn {K : (Nat → AV) → AHeap → Prop} : @PQ ⟨PN K⟩ ⟨.normal⟩ ⟨T⟩ H = K T H := propext ⟨fun h => h.2, fun h => ⟨rfl, h⟩⟩
theorem alp_pre {Q : PostP} {ops : Array Oper} {rest : List Oper} (hG : GRel Eb X.G) : ∀ {pre : List Oper} {T : Nat → AV} {H : AHeap}, pre.all noDefer = true → ALr X ops (PN fun T H => ALP X s l Eb ops rest Q T H tag) pre T H → ALP X s l Eb ops (pre ++ rest) Q T H tag
  | [], T, H, hn, h => h.2
  | o :: r, T, H, hn, h => by
    simp only [List.all_cons, Bool.and_eq_true] at hn
    obtain ⟨hd, h⟩ := h
    have hd' : ∀ k, o.dst = some k → k < X.N := fun k hk => by rw [hk] at hd; exact hd
    unfold condA at h
    split at h
    · rename_i hw
      simp only at h
      unfold altO at h
      split at h
      · rename_i fa hc
        exact alp_call hG hw hn.1 hd' hc (h.mono fun x H' hx => alp_pre hG hn.2 hx)
      · simp only at h
        split at h
        · rename_i ve ho
          exact alp_op hG hw hn.1 hd' ho (alp_pre hG hn.2 h)
        · exact h.elim
    · rename_i hw
      exact alp_skip (by simpa using hw) hd' (alp_pre hG hn.2 h)
theorem alp_flat {Q : PostP} {ops : Array Oper} {pre rest : List Oper} (hG : GRel Eb X.G) (hn : pre.all noDefer = true) (h : @ALf ⟨X⟩ ⟨ops⟩ ⟨PN fun T H => ALP X s l Eb ops rest Q T H tag⟩ ⟨pre⟩ ⟨T⟩ H) : ALP X s l Eb ops (pre ++ rest) Q T H tag := alp_pre hG hn h

/-- Code whose postcondition speaks of the model's states. -/
def AWG (X : Ctx) (E0 : Env) (c : Code) (Qr : Exit → Act → World → Prop) (T : Nat → AV) (H : AHeap) : Prop := ∀ a w, St E0 X.N T H a w → c.wpIn Fence.wide 0 X.P Qr a w
def GEnd (X : Ctx) (E0 : Env) (Qr : Exit → Act → World → Prop) : Post := fun e T H => ∀ a w, St E0 X.N T H a w → Qr e a w
@[simp] theorem pq_gend {Qr : Exit → Act → World → Prop} {e : Exit} : @PQ ⟨GEnd X E0 Qr⟩ ⟨e⟩ ⟨T⟩ H = ∀ a w, St E0 X.N T H a w → Qr e a w := Eq.trans rfl rfl
theorem awg_seq {x y : Code} {Qr : Exit → Act → World → Prop} (hG : GRel E0 X.G) (h : @AWf ⟨X⟩ ⟨x⟩ ⟨QThen (fun T H => AWG X E0 y Qr T H) (GEnd X E0 Qr)⟩ ⟨T⟩ H) : AWG X E0 (.seq x y) Qr T H := by
  intro a w hs
  refine wpIn_seq (wpIn_mono (wpIn_wide.2 (awf_of h E0 a w hG hs)) ?_)
  rintro e a' w' ⟨T', H', q, s⟩
  cases e with
  | normal => exact q a' w' s
  | exit id => exact q a' w' s
  | goto t => exact q a' w' s
  | ret => exact q a' w' s
  | panic c => exact q a' w' s
  | outgrown => exact q a' w' s
theorem awg_abs {c : Code} {Qr : Exit → Act → World → Prop} (h : ∀ T' H', T' = T → H' = H → AWG X E0 c Qr T' H') : AWG X E0 c Qr T H := h T H rfl rfl
theorem awg_seq' {x y : Code} {Qr : Exit → Act → World → Prop} (h : AWG X E0 x (Exit.then (y.wpIn Fence.wide 0 X.P Qr) Qr) T H) : AWG X E0 (.seq x y) Qr T H := fun a w hs => wpIn_seq (h a w hs)
theorem fq_end {rs : List ResultVar} {R : AV → AHeap → Prop} {e : Exit} (he : e = .normal ∨ e = .ret) (h : @altO _ (ares X.P T H.get rs) ⟨fun r => R r H⟩ ⟨False⟩) : ∀ a w, St E0 X.N T H a w → FQ X E0 rs R e a w := fun a w hs => by
  unfold altO at h
  split at h
  · rename_i r hr
    exact ⟨he, T, H, ⟨r, hr, h⟩, .inl hs⟩
  · exact h.elim
theorem fq_mark {rs : List ResultVar} {R : AV → AHeap → Prop} {e : Exit} {D : Nat} {a : Act} {w : World} (he : e = .normal ∨ e = .ret) (h : @altO _ (ares X.P T H.get rs) ⟨fun r => R r H⟩ ⟨False⟩) (hs : StQ D E0 X.N T H a w) : FQ X E0 rs R e a w := by
  unfold altO at h
  split at h
  · rename_i r hr
    exact ⟨he, T, H, ⟨r, hr, h⟩, .inr ⟨D, hs⟩⟩
  · exact h.elim
theorem awr_behind_f {D : Nat} {c : Code} {fn : Func} {R : AV → AHeap → Prop} (hf : flatC c = true) (h : @AWf ⟨X⟩ ⟨c⟩ ⟨fpost X.P fn.results.toList R⟩ ⟨T⟩ H) {a : Act} {w : World} (hG : GRel E0 X.G) (hs : StQ D E0 X.N T H a w) : c.wpIn Fence.wide 0 X.P (FQ X E0 fn.results.toList R) a w := by
  refine wpIn_mono (awr_behind hf h hG hs) ?_
  rintro e a' w' ⟨T', H', ⟨h1, h2⟩, hq⟩
  exact fq_mark h1 h2 hq
end
end Go.Abs

/-
  What a call laid is frozen through and through; what was there stays as it is said to be.
-/

namespace Go.Abs
open Go

mutual
/-- A value, all that it leads to from n on taken as frozen. -/
inductive ResV (get : Nat → Option AObj) (n : Nat) : AV → AV → Prop
  | old {v : AV} (h : v.idLt n = true) : ResV get n v v
  | ptr {i o : Nat} {cs r : List AV} (hn : n ≤ i) (hi : get i = some (.cells cs)) (h : ResL get n (cs.drop o) r) : ResV get n (.ptr i o) (.vptr r)
  | sl {i o z len cap : Nat} {opn : Bool} {cs r : List AV} (hn : n ≤ i) (hi : get i = some (.cells cs)) (h : ResL get n ((cs.drop o).take (len * z)) r) : ResV get n (.sl i o z len cap opn) (.vsl r len)
  | vptr {cs r : List AV} (h : ResL get n cs r) : ResV get n (.vptr cs) (.vptr r)
  | vsl {cs r : List AV} {len : Nat} (h : ResL get n cs r) : ResV get n (.vsl cs len) (.vsl r len)
  | agg {cs r : List AV} (h : ResL get n cs r) : ResV get n (.agg cs) (.agg r)
  | tuple {cs r : List AV} (h : ResL get n cs r) : ResV get n (.tuple cs) (.tuple r)
inductive ResL (get : Nat → Option AObj) (n : Nat) : List AV → List AV → Prop
  | nil : ResL get n [] []
  | cons {a b : AV} {as_ bs : List AV} (h : ResV get n a b) (t : ResL get n as_ bs) : ResL get n (a :: as_) (b :: bs)
end

mutual
theorem ResV.mono {g g' : Nat → Option AObj} {n : Nat} (hg : ∀ i cs, n ≤ i → g i = some (.cells cs) → g' i = some (.cells cs)) : ∀ {v r : AV}, ResV g n v r → ResV g' n v r
  | _, _, .old h => .old h
  | _, _, .ptr hn hi h => .ptr hn (hg _ _ hn hi) (ResL.mono hg h)
  | _, _, .sl hn hi h => .sl hn (hg _ _ hn hi) (ResL.mono hg h)
  | _, _, .vptr h => .vptr (ResL.mono hg h)
  | _, _, .vsl h => .vsl (ResL.mono hg h)
  | _, _, .agg h => .agg (ResL.mono hg h)
  | _, _, .tuple h => .tuple (ResL.mono hg h)
theorem ResL.mono {g g' : Nat → Option AObj} {n : Nat} (hg : ∀ i cs, n ≤ i → g i = some (.cells cs) → g' i = some (.cells cs)) : ∀ {v r : List AV}, ResL g n v r → ResL g' n v r
  | _, _, .nil => .nil
  | _, _, .cons h t => .cons (ResV.mono hg h) (ResL.mono hg t)
end

theorem ResL.old {g : Nat → Option AObj} {n : Nat} : ∀ {l : List AV}, AV.allLt n l = true → ResL g n l l
  | [], _ => .nil
  | a :: l, h => by
    simp only [AV.allLt, Bool.and_eq_true] at h
    exact .cons (.old h.1) (ResL.old h.2)
theorem ResL.append {g : Nat → Option AObj} {n : Nat} : ∀ {a b c d : List AV}, ResL g n a b → ResL g n c d → ResL g n (a ++ c) (b ++ d)
  | _, _, _, _, .nil, h => h
  | _, _, _, _, .cons h t, k => .cons h (ResL.append t k)

mutual
theorem ResV.down {g : Nat → Option AObj} {n m : Nat} (hm : m ≤ n) : ∀ {v r : AV}, ResV g n v r → r.idLt m = true → ResV g m v r
  | _, _, .old _, hr => .old hr
  | _, _, .ptr hn hi h, hr => .ptr (Nat.le_trans hm hn) hi (ResL.down hm h (by simpa [AV.idLt] using hr))
  | _, _, .sl hn hi h, hr => .sl (Nat.le_trans hm hn) hi (ResL.down hm h (by simpa [AV.idLt] using hr))
  | _, _, .vptr h, hr => .vptr (ResL.down hm h (by simpa [AV.idLt] using hr))
  | _, _, .vsl h, hr => .vsl (ResL.down hm h (by simpa [AV.idLt] using hr))
  | _, _, .agg h, hr => .agg (ResL.down hm h (by simpa [AV.idLt] using hr))
  | _, _, .tuple h, hr => .tuple (ResL.down hm h (by simpa [AV.idLt] using hr))
theorem ResL.down {g : Nat → Option AObj} {n m : Nat} (hm : m ≤ n) : ∀ {v r : List AV}, ResL g n v r → AV.allLt m r = true → ResL g m v r
  | _, _, .nil, _ => .nil
  | _, _, .cons h t, hr => by
    simp only [AV.allLt, Bool.and_eq_true] at hr
    exact .cons (ResV.down hm h hr.1) (ResL.down hm t hr.2)
end

/-- What lies from n on is frozen. -/
noncomputable def Env.from_ (E : Env) (H : AHeap) (w : World) (n : Nat) : Env := { φ := fun i => if i < n then E.φ i else none, F := E.F, os := E.os, out := E.out, K := fun B => match E.K B with
  | some o => some o
  | none => match E.F B with
    | some _ => none
    | none => by
      classical
      exact if (∃ i x p, i < n ∧ H.get i = some x ∧ E.φ i = some p ∧ p.b = B) then none else w.heap[B]? }

section
variable {E : Env} {H : AHeap} {w : World} {n : Nat}

theorem from_K {B : Nat} {o : Obj} (h : E.K B = some o) : (E.from_ H w n).K B = some o := by
  show (match E.K B with | some o => some o | none => _) = some o
  rw [h]

theorem from_live (hR : Rel E H w) {i : Nat} {x : AObj} {p : Place} (hi : i < n) (hx : H.get i = some x) (hp : E.φ i = some p) : (E.from_ H w n).K p.b = none := by
  obtain ⟨q, ob, h1, h2, h3, h4, h5⟩ := hR.live i x hx
  rw [hp] at h1; cases h1
  show (match E.K p.b with | some o => some o | none => _) = none
  rw [h2]
  show (match E.F p.b with | some _ => none | none => _) = none
  rw [h3]
  exact if_pos ⟨i, x, p, hi, hx, hp, rfl⟩

theorem from_new (hR : Rel E H w) {i : Nat} {x : AObj} {p : Place} (hi : n ≤ i) (hx : H.get i = some x) (hp : E.φ i = some p) : (E.from_ H w n).K p.b = w.heap[p.b]? := by
  obtain ⟨q, ob, h1, h2, h3, h4, h5⟩ := hR.live i x hx
  rw [hp] at h1; cases h1
  show (match E.K p.b with | some o => some o | none => _) = w.heap[p.b]?
  rw [h2]
  show (match E.F p.b with | some _ => none | none => _) = w.heap[p.b]?
  rw [h3]
  refine if_neg ?_
  rintro ⟨j, y, q, hj, hy, hq, e⟩
  have := hR.inj j i y x q p hy hx hq hp e
  omega

theorem from_knows : Knows (E.cut n) (E.from_ H w n) := ⟨fun _ _ h => h, fun _ _ h => from_K h⟩

theorem from_ink (hR : Rel E H w) {i : Nat} {cs : List AV} {p : Place} (hn : n ≤ i) (hi : H.get i = some (.cells cs)) (hp : E.φ i = some p) (o : Nat) :
    ∃ vs, InK (E.from_ H w n) p.b (p.s + o) vs ∧ VRels E (cs.drop o) vs := by
  have hK := from_new (n := n) hR hn hi hp
  obtain ⟨q, ob, h1, h2, h3, h4, c, e, fz, vs, rfl, _, h6, h7, _⟩ := hR.live i _ hi
  rw [hp] at h1; cases h1
  refine ⟨vs.drop o, .inr ⟨c, e, fz, hK.trans h4, ?_⟩, h6.drop o⟩
  obtain ⟨t, ht⟩ := h7
  rw [← List.drop_drop, ← ht]
  by_cases ho : o ≤ vs.length
  · rw [List.drop_append_of_le_length ho]; exact List.prefix_append _ _
  · rw [List.drop_of_length_le (by omega)]; exact List.nil_prefix

theorem InK.from_ {B o : Nat} {vs : List Value} (h : InK E B o vs) : InK (E.from_ H w n) B o vs := by
  rcases h with h | ⟨c, e, f, h1, h2⟩
  · exact .inl h
  · exact .inr ⟨c, e, f, from_K h1, h2⟩

mutual
theorem VRel.resV (hR : Rel E H w) : ∀ {v r : AV} {u : Value}, ResV H.get n v r → VRel E v u → VRel (E.from_ H w n) r u
  | _, _, _, .old h, hv => (VRel.cut hv h).mono from_knows
  | _, _, _, .ptr hn hi h, hv => by
    cases hv with
    | ptr hp =>
      obtain ⟨vs, h1, h2⟩ := from_ink hR hn hi hp _
      exact .vptr h1 (VRels.resL hR h h2)
  | _, _, _, .sl (len := len) (z := z) hn hi h, hv => by
    cases hv with
    | sl hp hl hc ho hm =>
      obtain ⟨vs, h1, h2⟩ := from_ink hR hn hi hp _
      refine .vsl (vs := vs.take (len * z)) ?_ (VRels.resL hR h (h2.take _)) (Nat.le_trans hl hc)
      rcases h1 with h1 | ⟨c, e, f, g1, g2⟩
      · left; rw [h1]; simp
      · exact .inr ⟨c, e, f, g1, (List.take_prefix _ _).trans g2⟩
  | _, _, _, .vptr h, hv => by
    cases hv with
    | vptr hK hv => exact .vptr hK.from_ (VRels.resL hR h hv)
  | _, _, _, .vsl h, hv => by
    cases hv with
    | vsl hK hv hl => exact .vsl hK.from_ (VRels.resL hR h hv) hl
    | vsl0 => cases h; exact .vsl0
  | _, _, _, .agg h, hv => by
    cases hv with
    | agg hv => exact .agg (VRels.resL hR h hv)
  | _, _, _, .tuple h, hv => by
    cases hv with
    | tuple hv => exact .tuple (VRels.resL hR h hv)
theorem VRels.resL (hR : Rel E H w) : ∀ {v r : List AV} {u : List Value}, ResL H.get n v r → VRels E v u → VRels (E.from_ H w n) r u
  | _, _, _, .nil, hv => by cases hv; exact .nil
  | _, _, _, .cons h t, hv => by
    cases hv with
    | cons hv ht => exact .cons (VRel.resV hR h hv) (VRels.resL hR t ht)
end
end

/-- The blocks below n are kept. -/
theorem Ghost.deep {n : Nat} {v r : AV} {H H2 : AHeap} (hv : ResV H.get n v r) (hn : H2.next = n) (hs : ∀ i x, H2.get i = some x → H.get i = some x ∧ i < n ∧ AV.allLt n x.cellsList = true) : Ghost n v H r H2 := fun E0 E w u hd hx hu hR => by
  subst hn
  have hgc := hR.gc hs
  refine ⟨E.from_ H w H2.next, ⟨fun i p hp => ?_, fun B o hB => from_K (hx.K B o hB), hx.F, hx.os, hx.out⟩, VRel.resV hR hv hu, ?_⟩
  · show (if i < H2.next then E.φ i else none) = some p
    rw [if_pos (hd i p hp)]; exact hx.φ i p hp
  · refine ⟨hR.os, hR.out, fun B o hB => ?_, hR.F, fun B => ?_, hgc.dom, fun i x hi => ?_, hgc.inj⟩
    · have hB : (match E.K B with | some o => some o | none => _) = some o := hB
      split at hB
      · rename_i o' ho'
        simp only [Option.some.injEq] at hB; subst hB
        exact hR.K B _ ho'
      · split at hB
        · simp at hB
        · split at hB
          · simp at hB
          · exact hB
    · cases hF : E.F B with
      | none => exact .inr hF
      | some o =>
        left
        have hK : E.K B = none := by
          rcases hR.KF B with e | e
          · exact e
          · rw [hF] at e; simp at e
        show (match E.K B with | some o => some o | none => _) = none
        rw [hK]
        show (match E.F B with | some _ => none | none => _) = none
        rw [hF]
    · obtain ⟨p, ob, h1, h2, h3, h4, h5⟩ := hgc.live i x hi
      obtain ⟨g1, g2, _⟩ := hs i x hi
      have hp : E.φ i = some p := by
        have h1 : (if i < H2.next then E.φ i else none) = some p := h1
        rw [if_pos g2] at h1; exact h1
      exact ⟨p, ob, h1, from_live hR g2 g1 hp, h3, h4, h5.mono from_knows⟩

/-- A call's answer frozen; of what was there, one block may be another. -/
theorem Does.deep {P : Program} {G : Nat → Option AV} {f : FuncId} {args : List AV} {H : AHeap} {R R' : AV → AHeap → Prop} (h : Does P G f args H R)
    (hg : H.Wf → AV.allLt H.next args = true → ∀ r H1, R r H1 → ∃ r' H2, ResV H1.get H.next r r' ∧ H2.next = H.next ∧ (∀ i x, H2.get i = some x → H1.get i = some x ∧ i < H.next ∧ AV.allLt H.next x.cellsList = true) ∧ R' r' H2) : Does P G f args H R' :=
  Does.wfs fun hw ha => h.ghost fun r H1 hr => by
    obtain ⟨r', H2, h1, h2, h3, h4⟩ := hg hw ha r H1 hr
    exact ⟨r', H2, Ghost.deep h1 h2 h3, h4⟩
end Go.Abs

/-
  Blocks of which the element type is known: a string put behind one.
-/

namespace Go.Abs
open Go

/-- An operation of whatever kind, by what it does. -/
theorem al_opres {P : Program} {G : Nat → Option AV} {N : Nat} {ops : Array Oper} {Q : Exit → (Nat → AV) → AHeap → Prop} {T : Nat → AV} {H H' : AHeap} {o : Oper} {rest : List Oper} {v : AV}
    (hw : awanted ops T o = true) (hd : ∀ k, o.dst = some k → k < N)
    (ho : ∀ (E : Env) (σ : Operand → Value) (w : World), Rel E H w → Operands E (aval G T) σ o.op.operands.toList → OpRes P E w (execOp σ o) v H')
    (h : AL P G N ops rest Q (tput T o.dst v) H') : AL P G N ops (o :: rest) Q T H := by
  intro E0 a w hG hs
  obtain ⟨⟨E, hx, hR, hT⟩, hdf⟩ := hs
  unfold wpList
  rw [awanted_eq hT, hw, if_pos rfl]
  obtain ⟨E', u, w', g1, g2, g3, g4⟩ := ho E a.eval w hR (hT.operands (hG.mono hx.knows) o.op.operands.toList)
  refine .inl (wp_of_run g4 (h E0 _ w' hG ⟨⟨E', hx.trans g1, g3, (hT.mono g1.knows).put o.dst g2 hd⟩, ?_⟩))
  cases o.dst <;> exact hdf

section
variable {P : Program} {E : Env} {w : World} {t u e ty : TypeId} {info : TypeInfo} {s : List UInt8} {us ux : Value}

/-- append(nil, s...) : a new block of bytes. -/
theorem append_nil_row {H : AHeap} (hR : Rel E H w) (ht : P.underlying t = some (.slice e)) (hu : P.underlying u = some .string) (hi : P.info? e = some info) {z : AV} (hz : azero P e = some z) (hzl : z.cells.length = 1) (hs1 : info.size = 1) (hb1 : info.bytes = 1)
    (hs0 : s ≠ []) (hl : s.length ≤ 140737488355328) (hv : VRel E .nilsl us) (hx : VRel E (.str s) ux) :
    ∃ E' v w', Ext E E' ∧ VRel E' (.sl H.next 0 1 s.length s.length true) v ∧ Rel E' (H.push (.row e (strCs s))) w' ∧ (Builtin.append_ #[t, u] ty #[us, ux]).run P w = .ok v w' := by
  have hn : s.length ≠ 0 := by simpa using hs0
  have h : aappend P t u H.flat.get H.flat.next .nilsl (.str s) = some (.sl H.flat.next 0 info.size s.length s.length true, .new (.cells (strCs s))) := by
    unfold aappend
    simp only [ht, hu, isSeq, hi, hz, alenOf, afirst, strCs]
    simp [hzl, hs1, hb1, hn, AV.scalar]
    omega
  obtain ⟨E', v, w', g1, g2, g3, g4, g5⟩ := aappend_sound' hR.flat h hv hx (ty := ty)
  rw [hs1] at g2
  refine ⟨E', v, w', g1, g2, Rel.typed g3 rfl fun k x hk => ?_, g4⟩
  simp only [AHeap.get_push] at hk
  by_cases hkn : k = H.next
  · rw [if_pos hkn] at hk
    simp only [Option.some.injEq] at hk; subst hk
    refine ⟨by subst hkn; simp [AHeap.eff, AHeap.flat, AHeap.push, AObj.flat], fun t' ht' q hq => ?_⟩
    simp only [AObj.ty, Option.some.injEq] at ht'; subst ht'
    subst hkn
    rcases g5 e ht q hq with h1 | ⟨_, _, _, _, _, _, _, h1, _⟩
    · exact h1
    · cases h1
  · rw [if_neg hkn] at hk
    refine ⟨by simp [AHeap.eff, AHeap.flat, AHeap.push, hkn, hk], fun t' ht' q hq => hR.rowTy' g1 hk ht' hq⟩

/-- append(b, s...) behind a block of bytes. -/
theorem append_row {H : AHeap} (hR : Rel E H w) (ht : P.underlying t = some (.slice e)) (hu : P.underlying u = some .string) (hi : P.info? e = some info) {z : AV} (hz : azero P e = some z) (hzl : z.cells.length = 1) (hs1 : info.size = 1) (hb1 : info.bytes = 1)
    {j : Nat} {cs : List AV} (hj : H.get j = some (.row e cs)) (hs0 : s ≠ []) (hl : cs.length + s.length ≤ 140737488355328) (hv : VRel E (.sl j 0 1 cs.length cs.length true) us) (hx : VRel E (.str s) ux) :
    ∃ E' v w', Ext E E' ∧ VRel E' (.sl H.next 0 1 (cs.length + s.length) (cs.length + s.length) true) v ∧ Rel E' ((H.kill j).push (.row e (cs ++ strCs s))) w' ∧ (Builtin.append_ #[t, u] ty #[us, ux]).run P w = .ok v w' := by
  have hn : s.length ≠ 0 := by simpa using hs0
  have hjn : j < H.next := hR.lt hj
  have hjf : H.flat.get j = some (.cells cs) := by simp [AHeap.flat, hj, AObj.flat]
  have h : aappend P t u H.flat.get H.flat.next (.sl j 0 1 cs.length cs.length true) (.str s) = some (.sl H.flat.next 0 1 (cs.length + s.length) (cs.length + s.length) true, .move j (.cells (cs ++ strCs s))) := by
    unfold aappend
    simp only [ht, hu, isSeq, hi, hz, alenOf, afirst, strCs, hjf]
    simp [hzl, hs1, hb1, AV.scalar]
    rw [if_neg (by omega), if_pos (by omega)]
  obtain ⟨E', v, w', g1, g2, g3, g4, g5⟩ := aappend_sound' hR.flat h hv hx (ty := ty)
  refine ⟨E', v, w', g1, g2, Rel.typed g3 rfl fun k x hk => ?_, g4⟩
  simp only [AHeap.get_push, AHeap.get_kill] at hk
  have hkn' : (H.kill j).next = H.next := rfl
  rw [hkn'] at hk
  by_cases hkn : k = H.next
  · rw [if_pos hkn] at hk
    simp only [Option.some.injEq] at hk; subst hk
    refine ⟨by subst hkn; simp [AHeap.eff, AHeap.flat, AHeap.push, AHeap.kill, AObj.flat], fun t' ht' q hq => ?_⟩
    simp only [AObj.ty, Option.some.injEq] at ht'; subst ht'
    subst hkn
    rcases g5 e ht q hq with h1 | ⟨i', _, _, _, _, _, p, h1, h2, h3, h4'⟩
    · exact h1
    · cases h1
      obtain ⟨k1, k2⟩ := hR.rowTy hj rfl h2
      exact ⟨h3.trans k1, by rw [h4', k2]⟩
  · rw [if_neg hkn] at hk
    by_cases hkj : k = j
    · rw [if_pos hkj] at hk; simp at hk
    · rw [if_neg hkj] at hk
      refine ⟨by simp [AHeap.eff, AHeap.flat, AHeap.push, AHeap.kill, hkn, hkj, hk], fun t' ht' q hq => hR.rowTy' g1 hk ht' hq⟩

/-- append(b, ""...) -/
theorem append_row0 {H : AHeap} (hR : Rel E H w) (ht : P.underlying t = some (.slice e)) (hu : P.underlying u = some .string) (hi : P.info? e = some info) {z : AV} (hz : azero P e = some z) (hzl : z.cells.length = 1) (hs1 : info.size = 1)
    {j : Nat} {cs : List AV} (hj : H.get j = some (.row e cs)) (hv : VRel E (.sl j 0 1 cs.length cs.length true) us) (hx : VRel E (.str []) ux) :
    ∃ E' v w', Ext E E' ∧ VRel E' (.sl j 0 1 cs.length cs.length true) v ∧ Rel E' H w' ∧ (Builtin.append_ #[t, u] ty #[us, ux]).run P w = .ok v w' := by
  have hjf : H.flat.get j = some (.cells cs) := by simp [AHeap.flat, hj, AObj.flat]
  have h : aappend P t u H.flat.get H.flat.next (.sl j 0 1 cs.length cs.length true) (.str []) = some (.sl j 0 1 cs.length cs.length true, .put j (.cells cs)) := by
    unfold aappend
    simp only [ht, hu, isSeq, hi, hz, alenOf, afirst, hjf]
    simp [hzl, hs1, splice]
  obtain ⟨E', v, w', g1, g2, g3, g4, g5⟩ := aappend_sound' hR.flat h hv hx (ty := ty)
  refine ⟨E', v, w', g1, g2, Rel.typed g3 rfl fun k x hk => ?_, g4⟩
  refine ⟨?_, fun t' ht' q hq => hR.rowTy' g1 hk ht' hq⟩
  show (H.flat.set j (.cells cs)).get k = some x.flat
  simp only [AHeap.get_set]
  by_cases e : k = j
  · subst e
    rw [hj] at hk; simp only [Option.some.injEq] at hk; subst hk
    simp [AObj.flat]
  · rw [if_neg e]; simp [AHeap.flat, hk]
end
end Go.Abs

/-
  Addresses as unsafe pointers, and back: what the model does at a row of cells.
-/


namespace Go.Abs
open Go

section
variable {P : Program} (w : World)

theorem to_unsafe {src dst t e : TypeId} {j : TypeInfo} {n : Nat} (a : Addr) (hs : P.underlying src = some (.pointer t)) (hd : P.underlying dst = some .unsafePointer) (ht : P.info? t = some j) (hj : j.size ≠ 0)
    (hsh : w.shape? a.block = some (e, n)) (hoff : a.off < n) : (convert src dst (.pointer (some a))).run P w = .ok (.pointer (some a)) w := by
  simp [convert, run_underlying hs, run_underlying hd, Conv.unsafePointer, Conv.seenAt, viewAt, cellsIn, hsh, sizeOf, typeInfo, ht, hj]
  intro h
  omega

theorem from_unsafe {src dst u e : TypeId} {j : TypeInfo} {n : Nat} (a : Addr) (hs : P.underlying src = some .unsafePointer) (hd : P.underlying dst = some (.pointer u)) (hu : P.info? u = some j)
    (hsh : w.shape? a.block = some (e, n)) (hlies : liesAt P P.depth e (n / P.cellsOf e) a.off u 1 = true) : (convert src dst (.pointer (some a))).run P w = .ok (.pointer (some a)) w := by
  simp [convert, run_underlying hs, run_underlying hd, Conv.unsafePointer, Conv.seenAt, viewAt, hsh, variablesAt, hlies, sizeOf, typeInfo, hu]
end
end Go.Abs
namespace Go.Abs
open Go

theorem rowAt_mono {P : Program} {fits : TypeId → Bool} {e : TypeId} {c c' off n : Nat} (hc : c ≤ c') : ∀ {d : Nat}, rowAt P fits d e c off n = true → rowAt P fits d e c' off n = true
  | 0, h => by simp [rowAt] at h
  | d + 1, h => by
    unfold rowAt at h ⊢
    simp only at h ⊢
    split at h
    · simp at h
    · rename_i hs
      rw [if_neg hs]
      simp only [Bool.or_eq_true, Bool.and_eq_true, beq_iff_eq, decide_eq_true_eq] at h ⊢
      rcases h with ⟨⟨h1, h2⟩, h3⟩ | ⟨h1, h2⟩
      · exact .inl ⟨⟨h1, by omega⟩, h3⟩
      · exact .inr ⟨by omega, h2⟩

theorem liesAt_mono {P : Program} {e : TypeId} {c c' off : Nat} (hc : c ≤ c') : ∀ {d : Nat} {u : TypeId} {n : Nat}, liesAt P d e c off u n = true → liesAt P d e c' off u n = true
  | 0, _, _, h => by simp [liesAt] at h
  | d + 1, u, n, h => by
    unfold liesAt at h ⊢
    simp only [Bool.or_eq_true] at h ⊢
    rcases h with h | h
    · exact .inl (rowAt_mono hc h)
    · refine .inr ?_
      split at h
      · exact liesAt_mono hc h
      · simp at h
end Go.Abs

/-
  A builder's check of its own address, over the abstract heap.
-/

namespace Go.Abs
open Go Go.RowKit

/-- What the seat's text tells of copyCheck. -/
structure IsCheck (P : Program) (f : FuncId) (T u : TypeId) : Prop where
  enters : Enters P f
  lies : liesAt P P.depth T 1 0 u 1 = true
  cells : P.cellsOf T = 2
  fresh : ∀ (b n : Nat) (w : World), w.cell? ⟨b, 0, none⟩ = some (.pointer none) → w.shape? b = some (T, n) → 0 < n → liesAt P P.depth T (n / P.cellsOf T) 0 u 1 = true → w.frozen? ⟨b, 0, none⟩ = false →
    Calls P f #[.pointer (some ⟨b, 0, none⟩)] w fun e w' => e = .returned (.tuple #[]) ∧ w' = w.setCell ⟨b, 0, none⟩ (.pointer (some ⟨b, 0, none⟩))
  used : ∀ (b : Nat) (w : World), w.cell? ⟨b, 0, none⟩ = some (.pointer (some ⟨b, 0, none⟩)) → Calls P f #[.pointer (some ⟨b, 0, none⟩)] w fun e w' => e = .returned (.tuple #[]) ∧ w' = w

/-- A cell of a row is written. -/
theorem Rel.writeRow {E : Env} {H : AHeap} {w : World} (h : Rel E H w) {i : Nat} {t : TypeId} {cs : List AV} (hi : H.get i = some (.row t cs)) {p : Place} (hp : E.φ i = some p) {o : Nat} (ho : o < cs.length)
    {a : AV} {v : Value} (hv : VRel E a v) (hs : a.scalar = true) (P : Program) :
    (store ⟨p.b, p.s + o, none⟩ v).run P w = .ok () (w.setCell ⟨p.b, p.s + o, none⟩ v) ∧ Rel E (H.set i (.row t (cs.set o a))) (w.setCell ⟨p.b, p.s + o, none⟩ v) := by
  have hf : H.flat.get i = some (.cells cs) := by simp [AHeap.flat, hi, AObj.flat]
  obtain ⟨h1, h2⟩ := h.flat.write hf hp ho hv hs P
  refine ⟨h1, Rel.typed h2 rfl fun k x hk => ?_⟩
  simp only [AHeap.get_set] at hk ⊢
  by_cases e : k = i
  · subst e
    rw [if_pos rfl] at hk ⊢
    simp only [Option.some.injEq] at hk; subst hk
    exact ⟨rfl, fun t' ht' q hq => by
      simp only [AObj.ty, Option.some.injEq] at ht'; subst ht'
      exact h.rowTy hi rfl hq⟩
  · rw [if_neg e] at hk ⊢
    exact ⟨by simp [AHeap.flat, hk], fun t' ht' q hq => h.rowTy hk ht' hq⟩

theorem check_does {P : Program} {G : Nat → Option AV} {f : FuncId} {T u : TypeId} (hf : IsCheck P f T u) {H : AHeap} {i : Nat} {c0 c1 : AV} (hi : H.get i = some (.row T [c0, c1])) (hc : c0 = .nilptr ∨ c0 = .ptr i 0) :
    Does P G f [.ptr i 0] H fun r h => r = .tuple [] ∧ h = H.set i (.row T [.ptr i 0, c1]) := by
  refine ⟨fun E w vs hR hG hv => ?_⟩
  cases hv with | cons ha hv =>
  cases hv
  cases ha with | ptr hp =>
  rename_i p
  obtain ⟨hT, hs0⟩ := hR.rowTy hi rfl hp
  have hflat : H.flat.get i = some (.cells [c0, c1]) := by simp [AHeap.flat, hi, AObj.flat]
  obtain ⟨c, fz, vs, k1, k2, k3, k4, k5, _, _⟩ := hR.flat.cellsOf' hflat hp
  cases k3 with | cons v0 k3 =>
  cases k3 with | cons v1 k3 =>
  cases k3
  rename_i x0 x1
  rw [hs0, List.drop_zero] at k4
  have hlen := k4.length_le
  simp only [List.length_cons, List.length_nil, Array.length_toList] at hlen
  have hcell : w.cell? ⟨p.b, 0, none⟩ = some x0 := by
    rw [cell?_of k1]
    have := prefix_get? k4 (j := 0) (v := x0) rfl
    simpa using this
  have hptr : (⟨p.b, p.s + 0, none⟩ : Addr) = ⟨p.b, 0, none⟩ := by rw [hs0]
  rw [hptr]
  rcases hc with rfl | rfl
  · cases v0
    have hsh : w.shape? p.b = some (T, c.size) := by simp [World.shape?, k1, hT]
    have hfz : w.frozen? ⟨p.b, 0, none⟩ = false := frozen?_of k1 (k5.out 0 (by omega))
    have hl : liesAt P P.depth T (c.size / P.cellsOf T) 0 u 1 = true := liesAt_mono (by rw [hf.cells]; omega) hf.lies
    refine .inl ⟨hf.enters _ _, (hf.fresh p.b c.size w hcell hsh (by omega) hl hfz).mono fun e w' ⟨h1, h2⟩ => ⟨_, h1, .tuple [], _, E, ⟨rfl, rfl⟩, Ext.refl E, .tuple .nil, ?_⟩⟩
    subst h2
    have := (hR.writeRow hi hp (o := 0) (by simp) (VRel.ptr (o := 0) hp) rfl P).2
    rw [hptr] at this
    exact this
  · cases v0 with | ptr hq =>
    rw [hp] at hq; cases hq
    rw [hptr] at hcell
    refine .inl ⟨hf.enters _ _, (hf.used p.b w hcell).mono fun e w' ⟨h1, h2⟩ => ⟨_, h1, .tuple [], _, E, ⟨rfl, rfl⟩, Ext.refl E, .tuple .nil, ?_⟩⟩
    subst h2
    rw [AHeap.set_self H i _ hi]; exact hR
end Go.Abs

/-
  A builder's WriteString, String, Grow, over the abstract heap, beside what the seat's text tells of them at the model's level.
-/

namespace Go.Abs
open Go Go.RowKit

/-- A cell of a row. -/
theorem Rel.rowCell {E : Env} {H : AHeap} {w : World} (h : Rel E H w) {i : Nat} {t : TypeId} {cs : List AV} (hi : H.get i = some (.row t cs)) {p : Place} (hp : E.φ i = some p) {o : Nat} {a : AV} (ho : cs[o]? = some a) :
    ∃ v, w.cell? ⟨p.b, o, none⟩ = some v ∧ VRel E a v ∧ w.frozen? ⟨p.b, o, none⟩ = false := by
  obtain ⟨hT, hs0⟩ := h.rowTy hi rfl hp
  have hflat : H.flat.get i = some (.cells cs) := by simp [AHeap.flat, hi, AObj.flat]
  obtain ⟨c, fz, vs, k1, k2, k3, k4, k5, _, _⟩ := h.flat.cellsOf' hflat hp
  obtain ⟨v, hv, hr⟩ := k3.get? ho
  rw [hs0, List.drop_zero] at k4
  have h1 := prefix_get? k4 hv
  have hlen : o < c.size := by
    rcases Nat.lt_or_ge o c.size with q | q
    · exact q
    · rw [List.getElem?_eq_none (by simpa using q)] at h1; simp at h1
  refine ⟨v, ?_, hr, frozen?_of k1 (k5.out o (by omega))⟩
  rw [cell?_of k1]
  simpa using h1

theorem check_run {P : Program} {f : FuncId} {T u : TypeId} (hf : IsCheck P f T u) {E : Env} {H : AHeap} {w : World} (hR : Rel E H w) {i : Nat} {c0 c1 : AV} (hi : H.get i = some (.row T [c0, c1])) (hc : c0 = .nilptr ∨ c0 = .ptr i 0) {p : Place} (hp : E.φ i = some p) :
    ∃ w1, Calls P f #[.pointer (some ⟨p.b, 0, none⟩)] w (fun e w' => e = .returned (.tuple #[]) ∧ w' = w1) ∧ Rel E (H.set i (.row T [.ptr i 0, c1])) w1 := by
  obtain ⟨hT, hs0⟩ := hR.rowTy hi rfl hp
  obtain ⟨v, hv, hr, hfz⟩ := hR.rowCell hi hp (o := 0) (a := c0) rfl
  obtain ⟨c, fz, h1, h2, _⟩ := hR.elem hi hp (fun _ e => by cases e)
  have hptr : (⟨p.b, p.s + 0, none⟩ : Addr) = ⟨p.b, 0, none⟩ := by rw [hs0]
  rcases hc with rfl | rfl
  · cases hr
    have hflat : H.flat.get i = some (.cells [.nilptr, c1]) := by simp [AHeap.flat, hi, AObj.flat]
    obtain ⟨c', fz', vs, k1, k2, k3, k4, k5, _, _⟩ := hR.flat.cellsOf' hflat hp
    have hvl := k3.length
    have hlen := k4.length_le
    simp only [List.length_cons, List.length_nil, List.length_drop, Array.length_toList] at hlen hvl
    have hsh : w.shape? p.b = some (T, c'.size) := by simp [World.shape?, k1, hT]
    have hl : liesAt P P.depth T (c'.size / P.cellsOf T) 0 u 1 = true := liesAt_mono (by rw [hf.cells]; omega) hf.lies
    refine ⟨_, hf.fresh p.b c'.size w hv hsh (by omega) hl hfz, ?_⟩
    have := (hR.writeRow hi hp (o := 0) (by simp) (VRel.ptr (o := 0) hp) rfl P).2
    rw [hptr] at this
    exact this
  · cases hr with | ptr hq =>
    rw [hp] at hq; cases hq
    rw [hptr] at hv
    refine ⟨w, hf.used p.b w hv, ?_⟩
    rw [AHeap.set_self H i _ hi]; exact hR

/-- What the seat's text tells of WriteString. -/
structure IsWrite (P : Program) (f ck : FuncId) (T e t u : TypeId) : Prop where
  enters : Enters P f
  slice : P.underlying t = some (.slice e)
  string : P.underlying u = some .string
  info : ∃ info z, P.info? e = some info ∧ azero P e = some z ∧ z.cells.length = 1 ∧ info.size = 1 ∧ info.bytes = 1
  runs : ∀ (b : Nat) (s : ByteArray) (x x' y : Value) (w w1 w2 : World), (Calls P ck #[.pointer (some ⟨b, 0, none⟩)] w fun e w' => e = .returned (.tuple #[]) ∧ w' = w1) →
    w1.cell? ⟨b, 1, none⟩ = some x → (Builtin.append_ #[t, u] t #[x, .string s]).run P w1 = .ok x' w2 → ∀ (ao : Option Addr) (n c : Nat), x' = .slice ao n c → w2.cell? ⟨b, 1, none⟩ = some y → w2.frozen? ⟨b, 1, none⟩ = false →
    Calls P f #[.pointer (some ⟨b, 0, none⟩), .string s] w fun e w' => e = .returned (.tuple #[.int .i64 s.size, .nilIface]) ∧ w' = w2.setCell ⟨b, 1, none⟩ x'

theorem VRel.slOf {E : Env} {i o z len cap : Nat} {opn : Bool} {v : Value} (h : VRel E (.sl i o z len cap opn) v) : ∃ ao n c, v = .slice ao n c := by
  cases h; exact ⟨_, _, _, rfl⟩

/-- append(nil, "") -/
theorem append_nil0 {P : Program} {E : Env} {H : AHeap} {w : World} {t u e ty : TypeId} {info : TypeInfo} {z : AV} {us ux : Value} (hR : Rel E H w) (ht : P.underlying t = some (.slice e)) (hu : P.underlying u = some .string) (hi : P.info? e = some info) (hz : azero P e = some z) (hzl : z.cells.length = 1) (hs1 : info.size = 1)
    (hv : VRel E .nilsl us) (hx : VRel E (.str []) ux) : ∃ E' v w', Ext E E' ∧ VRel E' .nilsl v ∧ Rel E' H w' ∧ (Builtin.append_ #[t, u] ty #[us, ux]).run P w = .ok v w' := by
  have h : aappend P t u H.flat.get H.flat.next .nilsl (.str []) = some (.nilsl, .same) := by
    unfold aappend
    simp only [ht, hu, isSeq, hi, hz, alenOf, afirst]
    simp [hzl, hs1]
  obtain ⟨E', v, w', g1, g2, g3, g4, g5⟩ := aappend_sound' hR.flat h hv hx (ty := ty)
  exact ⟨E', v, w', g1, g2, Rel.typed g3 rfl fun k x hk => ⟨by simp [AHeap.eff, AHeap.flat, hk], fun t' ht' q hq => hR.rowTy' g1 hk ht' hq⟩, g4⟩

/-- What a builder's bytes are behind some more: where they lie, and the heap. -/
def bWrite (H : AHeap) (T e : TypeId) (i : Nat) (c1 : AV) (s : List UInt8) : Option AHeap := match c1 with
  | .nilsl => if s = [] then some (H.set i (.row T [.ptr i 0, .nilsl])) else some (((H.set i (.row T [.ptr i 0, .nilsl])).push (.row e (strCs s))).set i (.row T [.ptr i 0, .sl H.next 0 1 s.length s.length true]))
  | .sl j 0 1 n m true => match H.get j with
    | some (.row e' cs) => if e' = e ∧ n = cs.length ∧ m = n ∧ j ≠ i then
        (if s = [] then some (H.set i (.row T [.ptr i 0, .sl j 0 1 n n true]))
         else if n + s.length ≤ 140737488355328 then some ((((H.set i (.row T [.ptr i 0, .sl j 0 1 n n true])).kill j).push (.row e (cs ++ strCs s))).set i (.row T [.ptr i 0, .sl H.next 0 1 (n + s.length) (n + s.length) true])) else none) else none
    | _ => none
  | _ => none

theorem write_does {P : Program} {G : Nat → Option AV} {f ck : FuncId} {T e t u uu : TypeId} (hck : IsCheck P ck T uu) (hf : IsWrite P f ck T e t u) {H H' : AHeap} {i : Nat} {c0 c1 : AV} {s : List UInt8} (hi : H.get i = some (.row T [c0, c1])) (hc : c0 = .nilptr ∨ c0 = .ptr i 0)
    (hl : s.length ≤ 140737488355328) (hw : bWrite H T e i c1 s = some H') : Does P G f [.ptr i 0, .str s] H fun r h => r = .tuple [.int .i64 s.length, .niliface] ∧ h = H' := by
  refine ⟨fun E w vs hR hG hv => ?_⟩
  cases hv with | cons ha hv =>
  cases hv with | cons hb hv =>
  cases hv
  cases hb
  cases ha with | ptr hp =>
  rename_i p
  obtain ⟨hT, hs0⟩ := hR.rowTy hi rfl hp
  have hptr : (⟨p.b, p.s + 0, none⟩ : Addr) = ⟨p.b, 0, none⟩ := by rw [hs0]
  rw [hptr]
  obtain ⟨w1, hcalls, hR1⟩ := check_run hck hR hi hc hp
  have hi1 : (H.set i (.row T [.ptr i 0, c1])).get i = some (.row T [.ptr i 0, c1]) := AHeap.get_set_same _ _ _
  obtain ⟨x, hx, hxr, _⟩ := hR1.rowCell hi1 hp (o := 1) (a := c1) rfl
  obtain ⟨info, z, g1, g2, g3, g4, g5⟩ := hf.info
  have hin : i < H.next := hR.lt hi
  -- what is left behind the append
  have key : ∀ (c2 : AV) (H2 : AHeap), c2.scalar = true → (c2 = .nilsl ∨ ∃ j o z len cap opn, c2 = .sl j o z len cap opn) → (∃ E' v w', Ext E E' ∧ VRel E' c2 v ∧ Rel E' H2 w' ∧ (Builtin.append_ #[t, u] t #[x, .string ⟨s.toArray⟩]).run P w1 = .ok v w') → H2.get i = some (.row T [.ptr i 0, c1]) →
      H2.set i (.row T [.ptr i 0, c2]) = H' → OpCalls P f [.pointer (some ⟨p.b, 0, none⟩), .string ⟨s.toArray⟩].toArray w (Ends E fun r h => r = .tuple [.int .i64 s.length, .niliface] ∧ h = H') := by
    rintro c2 H2 hsc hc2 ⟨E', v, w2, k1, k2, k3, k4⟩ hi2 hH
    obtain ⟨y, hy, _, hfz⟩ := k3.rowCell hi2 (k1.φ _ _ hp) (o := 1) (a := c1) rfl
    have hvs : ∃ ao n c, v = .slice ao n c := by
      rcases hc2 with rfl | ⟨_, _, _, _, _, _, rfl⟩
      · cases k2; exact ⟨_, _, _, rfl⟩
      · exact k2.slOf
    obtain ⟨ao, n, c, rfl⟩ := hvs
    refine .inl ⟨hf.enters _ _, (hf.runs p.b ⟨s.toArray⟩ x _ y w w1 w2 hcalls hx k4 ao n c rfl hy hfz).mono fun e w' ⟨h1, h2⟩ => ⟨_, h1, .tuple [.int .i64 s.length, .niliface], _, E', ⟨rfl, rfl⟩, k1, .tuple (.cons (by simpa [ByteArray.size] using VRel.int _ _) (.cons .niliface .nil)), ?_⟩⟩
    subst h2
    have hp' := k1.φ _ _ hp
    have := (k3.writeRow hi2 hp' (o := 1) (by simp) k2 hsc P).2
    rw [hs0, Nat.zero_add] at this
    rw [← hH]
    exact this
  unfold bWrite at hw
  split at hw
  · split at hw
    · rename_i hs
      subst hs
      simp only [Option.some.injEq] at hw
      exact key .nilsl _ rfl (.inl rfl) (append_nil0 hR1 hf.slice hf.string g1 g2 g3 g4 hxr (.str [])) hi1 (by rw [AHeap.set_set]; exact hw)
    · rename_i hne
      simp only [Option.some.injEq] at hw
      refine key (.sl H.next 0 1 s.length s.length true) ((H.set i (.row T [.ptr i 0, .nilsl])).push (.row e (strCs s))) rfl (.inr ⟨_, _, _, _, _, _, rfl⟩) (append_nil_row hR1 hf.slice hf.string g1 g2 g3 g4 g5 hne hl hxr (.str s)) ?_ hw
      simp only [AHeap.get_push]
      show (if i = H.next then _ else _) = _
      rw [if_neg (by omega)]; exact hi1
  · rename_i j n m
    split at hw <;> try (simp at hw; done)
    rename_i e' cs hj
    split at hw <;> try (simp at hw; done)
    rename_i hb
    obtain ⟨rfl, rfl, rfl, hji⟩ := hb
    have hj1 : (H.set i (.row T [.ptr i 0, .sl j 0 1 cs.length cs.length true])).get j = some (.row e' cs) := by
      simp only [AHeap.get_set]; rw [if_neg hji]; exact hj
    split at hw
    · rename_i hs
      subst hs
      simp only [Option.some.injEq] at hw
      exact key (.sl j 0 1 cs.length cs.length true) _ rfl (.inr ⟨_, _, _, _, _, _, rfl⟩) (append_row0 hR1 hf.slice hf.string g1 g2 g3 g4 hj1 hxr (.str [])) hi1 (by rw [AHeap.set_set]; exact hw)
    · rename_i hne
      split at hw <;> try (simp at hw; done)
      rename_i hll
      simp only [Option.some.injEq] at hw
      refine key (.sl H.next 0 1 (cs.length + s.length) (cs.length + s.length) true) (((H.set i (.row T [.ptr i 0, .sl j 0 1 cs.length cs.length true])).kill j).push (.row e' (cs ++ strCs s))) rfl (.inr ⟨_, _, _, _, _, _, rfl⟩) (append_row hR1 hf.slice hf.string g1 g2 g3 g4 g5 hj1 hne hll hxr (.str s)) ?_ hw
      simp only [AHeap.get_push, AHeap.get_kill]
      show (if i = H.next then _ else _) = _
      rw [if_neg (by omega), if_neg (fun e => hji e.symm)]; exact hi1
  · simp at hw

/-- All but one block stands as it stood. -/
theorem Rel.killOther {E : Env} {H : AHeap} {w w' : World} (h : Rel E H w) {j : Nat} {x : AObj} (hj : H.get j = some x) {p : Place} (hp : E.φ j = some p) (hh : ∀ C, C ≠ p.b → w'.heap[C]? = w.heap[C]?) (ho : w'.os = w.os) (hu : w'.output = w.output) : Rel E (H.kill j) w' := by
  obtain ⟨q, ob, h1, h2, h3, h4, h5⟩ := h.live j x hj
  rw [hp] at h1; cases h1
  refine ⟨ho.trans h.os, hu.trans h.out, fun B o hB => ?_, fun B o hB => ?_, h.KF, h.dom, fun i y hi => ?_, fun i k y z q r hi hk => ?_⟩
  · rw [hh B (fun e => by subst e; rw [h2] at hB; simp at hB)]; exact h.K B o hB
  · rw [hh B (fun e => by subst e; rw [h3] at hB; simp at hB)]; exact h.F B o hB
  · simp only [AHeap.get_kill] at hi
    split at hi
    · simp at hi
    · rename_i hij
      obtain ⟨q, ob, g1, g2, g3, g4, g5⟩ := h.live i y hi
      exact ⟨q, ob, g1, g2, g3, by rw [hh q.b (fun e => hij (h.inj i j y x q p hi hj g1 hp e))]; exact g4, g5⟩
  · simp only [AHeap.get_kill] at hi hk
    split at hi <;> split at hk <;> first | (simp at hi; done) | (simp at hk; done) | exact h.inj i k y z q r hi hk

/-- What the seat's text tells of String. -/
structure IsString (P : Program) (f : FuncId) (e : TypeId) : Prop where
  enters : Enters P f
  empty : ∀ (b : Nat) (w : World), w.cell? ⟨b, 1, none⟩ = some (.slice none 0 0) → Calls P f #[.pointer (some ⟨b, 0, none⟩)] w fun e w' => e = .returned (.string ⟨#[]⟩) ∧ Below w.heap.size w w'
  full : ∀ (b g cap : Nat) (l : List UInt8) (c : Array Value) (fz : Nat × Nat) (w : World), w.cell? ⟨b, 1, none⟩ = some (.slice (some ⟨g, 0, none⟩) l.length cap) → w.heap[g]? = some (.cells c e fz) → (∀ (j : Nat) (x : UInt8), l[j]? = some x → w.cell? ⟨g, j, none⟩ = some (.int .u8 x.toNat)) →
    l ≠ [] → l.length ≤ cap → cap ≤ c.size → l.length ≤ 140737488355328 → Calls P f #[.pointer (some ⟨b, 0, none⟩)] w fun e w' => e = .returned (.string ⟨l.toArray⟩) ∧ (∀ C, C ≠ g → w'.heap[C]? = w.heap[C]?) ∧ w'.os = w.os ∧ w'.output = w.output

theorem strCs_get? {s : List UInt8} {j : Nat} {x : UInt8} (h : s[j]? = some x) : (strCs s)[j]? = some (.int .u8 x.toNat) := by simp [strCs, h]

theorem string_nil {P : Program} {G : Nat → Option AV} {f : FuncId} {T e : TypeId} (hf : IsString P f e) {H : AHeap} {i : Nat} {c0 : AV} (hi : H.get i = some (.row T [c0, .nilsl])) : Does P G f [.ptr i 0] H fun r h => r = .str [] ∧ h = H := by
  refine ⟨fun E w vs hR hG hv => ?_⟩
  cases hv with | cons ha hv =>
  cases hv
  cases ha with | ptr hp =>
  rename_i p
  obtain ⟨hT, hs0⟩ := hR.rowTy hi rfl hp
  have hptr : (⟨p.b, p.s + 0, none⟩ : Addr) = ⟨p.b, 0, none⟩ := by rw [hs0]
  rw [hptr]
  obtain ⟨x, hx, hxr, _⟩ := hR.rowCell hi hp (o := 1) (a := .nilsl) rfl
  cases hxr
  exact .inl ⟨hf.enters _ _, (hf.empty p.b w hx).mono fun e w' ⟨h1, h2⟩ => ⟨_, h1, .str [], H, E, ⟨rfl, rfl⟩, Ext.refl E, .str [], hR.below h2⟩⟩

theorem string_some {P : Program} {G : Nat → Option AV} {f : FuncId} {T e : TypeId} (hf : IsString P f e) {H : AHeap} {i j : Nat} {c0 : AV} {s : List UInt8} (hi : H.get i = some (.row T [c0, .sl j 0 1 s.length s.length true])) (hj : H.get j = some (.row e (strCs s))) (hs : s ≠ []) (hl : s.length ≤ 140737488355328) :
    Does P G f [.ptr i 0] H fun r h => r = .str s ∧ h = H.kill j := by
  refine ⟨fun E w vs hR hG hv => ?_⟩
  cases hv with | cons ha hv =>
  cases hv
  cases ha with | ptr hp =>
  rename_i p
  obtain ⟨hT, hs0⟩ := hR.rowTy hi rfl hp
  have hptr : (⟨p.b, p.s + 0, none⟩ : Addr) = ⟨p.b, 0, none⟩ := by rw [hs0]
  rw [hptr]
  obtain ⟨x, hx, hxr, _⟩ := hR.rowCell hi hp (o := 1) (a := .sl j 0 1 s.length s.length true) rfl
  cases hxr with | sl hq hle hc ho hn =>
  rename_i c' q
  obtain ⟨hT2, hs2⟩ := hR.rowTy hj rfl hq
  obtain ⟨c, fz, h1, h2, _⟩ := hR.elem hj hq (fun _ e => by cases e)
  rw [hs2] at hx
  simp only [Nat.zero_add] at hx
  refine .inl ⟨hf.enters _ _, (hf.full p.b q.b c' s c fz w hx (by rw [h1, hT2]) (fun k y hk => ?_) hs hc (by omega) hl).mono fun e w' ⟨g1, g2, g3, g4⟩ => ⟨_, g1, .str s, H.kill j, E, ⟨rfl, rfl⟩, Ext.refl E, .str s, hR.killOther hj hq g2 g3 g4⟩⟩
  obtain ⟨v, hv, hr, _⟩ := hR.rowCell hj hq (strCs_get? hk)
  cases hr; exact hv

/-- A row is laid. -/
theorem Rel.pushRow {E : Env} {H : AHeap} {w w' : World} (h : Rel E H w) {cs : List AV} {vs : List Value} {c : Array Value} {e : TypeId} {fz : Nat × Nat}
    (hw : w'.heap = w.heap.push (.cells c e fz)) (ho : w'.os = w.os) (hu : w'.output = w.output) (hv : VRels E cs vs) (hp : vs <+: c.toList) (hfz : Unfr fz c.size) :
    Rel (E.put H.next ⟨w.heap.size, 0, c.size, e⟩) (H.push (.row e cs)) w' := by
  have hx := Env.put_ext (E := E) (i := H.next) (p := ⟨w.heap.size, 0, c.size, e⟩) h.fresh
  refine Rel.typed (h.flat.push hw ho hu hv hp hfz) rfl fun k x hk => ?_
  simp only [AHeap.get_push] at hk
  show (if k = H.next then some (AObj.cells cs) else (H.get k).map AObj.flat) = some x.flat ∧ _
  by_cases hkn : k = H.next
  · rw [if_pos hkn] at hk
    simp only [Option.some.injEq] at hk; subst hk
    refine ⟨by rw [if_pos hkn]; rfl, fun t' ht' q hq => ?_⟩
    simp only [AObj.ty, Option.some.injEq] at ht'; subst ht'
    have e : (E.put H.next ⟨w.heap.size, 0, c.size, e⟩).φ k = some ⟨w.heap.size, 0, c.size, e⟩ := by simp [Env.put, hkn]
    have hq : (E.put H.next ⟨w.heap.size, 0, c.size, _⟩).φ k = some q := hq
    rw [e] at hq
    cases hq; exact ⟨rfl, rfl⟩
  · rw [if_neg hkn] at hk
    exact ⟨by rw [if_neg hkn, hk]; rfl, fun t' ht' q hq => h.rowTy' hx hk ht' hq⟩

/-- What the seat's text tells of Grow. -/
structure IsGrow (P : Program) (f ck : FuncId) (e : TypeId) : Prop where
  enters : Enters P f
  runs : ∀ (b n : Nat) (w w1 : World), (Calls P ck #[.pointer (some ⟨b, 0, none⟩)] w fun e w' => e = .returned (.tuple #[]) ∧ w' = w1) →
    w1.cell? ⟨b, 1, none⟩ = some (.slice none 0 0) → w1.frozen? ⟨b, 1, none⟩ = false → b < w1.heap.size → 0 < n → n ≤ 140737488355328 →
    Calls P f #[.pointer (some ⟨b, 0, none⟩), .int .i64 n] w fun x w' => x = .returned (.tuple #[]) ∧ ∃ c : Array Value, w'.heap = ((w1.alloc (.cells c e)).setCell ⟨b, 1, none⟩ (.slice (some ⟨w1.heap.size, 0, none⟩) 0 c.size)).heap ∧ w'.os = w1.os ∧ w'.output = w1.output
  runs0 : ∀ (b : Nat) (w w1 : World), (Calls P ck #[.pointer (some ⟨b, 0, none⟩)] w fun e w' => e = .returned (.tuple #[]) ∧ w' = w1) →
    w1.cell? ⟨b, 1, none⟩ = some (.slice none 0 0) → Calls P f #[.pointer (some ⟨b, 0, none⟩), .int .i64 0] w fun x w' => x = .returned (.tuple #[]) ∧ w'.heap = w1.heap ∧ w'.os = w1.os ∧ w'.output = w1.output

theorem Rel.heapSame {E : Env} {H : AHeap} {w w' : World} (h : Rel E H w) (hh : w'.heap = w.heap) (ho : w'.os = w.os) (hu : w'.output = w.output) : Rel E H w' :=
  ⟨ho.trans h.os, hu.trans h.out, fun B o hB => by rw [hh]; exact h.K B o hB, fun B o hB => by rw [hh]; exact h.F B o hB, h.KF, h.dom, fun i x hi => by
    obtain ⟨p, ob, g1, g2, g3, g4, g5⟩ := h.live i x hi
    exact ⟨p, ob, g1, g2, g3, by rw [hh]; exact g4, g5⟩, h.inj⟩

/-- The heap behind Grow. -/
def bGrow (H : AHeap) (T e : TypeId) (i : Nat) (n : Nat) : AHeap :=
  if n = 0 then H.set i (.row T [.ptr i 0, .nilsl]) else ((H.set i (.row T [.ptr i 0, .nilsl])).push (.row e [])).set i (.row T [.ptr i 0, .sl H.next 0 1 0 0 true])

theorem grow_does {P : Program} {G : Nat → Option AV} {f ck : FuncId} {T e uu : TypeId} (hck : IsCheck P ck T uu) (hf : IsGrow P f ck e) {H : AHeap} {i n : Nat} {c0 : AV} (hi : H.get i = some (.row T [c0, .nilsl])) (hc : c0 = .nilptr ∨ c0 = .ptr i 0) (hn : n ≤ 140737488355328) :
    Does P G f [.ptr i 0, .int .i64 n] H fun r h => r = .tuple [] ∧ h = bGrow H T e i n := by
  refine ⟨fun E w vs hR hG hv => ?_⟩
  cases hv with | cons ha hv =>
  cases hv with | cons hb hv =>
  cases hv
  cases hb
  cases ha with | ptr hp =>
  rename_i p
  obtain ⟨hT, hs0⟩ := hR.rowTy hi rfl hp
  have hptr : (⟨p.b, p.s + 0, none⟩ : Addr) = ⟨p.b, 0, none⟩ := by rw [hs0]
  rw [hptr]
  obtain ⟨w1, hcalls, hR1⟩ := check_run hck hR hi hc hp
  have hi1 : (H.set i (.row T [.ptr i 0, .nilsl])).get i = some (.row T [.ptr i 0, .nilsl]) := AHeap.get_set_same _ _ _
  obtain ⟨x, hx, hxr, hfz⟩ := hR1.rowCell hi1 hp (o := 1) (a := .nilsl) rfl
  cases hxr
  have hin : i < H.next := hR.lt hi
  obtain ⟨c, fz, h1, h2, _⟩ := hR1.elem hi1 hp (fun _ e => by cases e)
  have hbs : p.b < w1.heap.size := (Array.getElem?_eq_some_iff.1 h1).1
  unfold bGrow
  by_cases h0 : n = 0
  · subst h0
    exact .inl ⟨hf.enters _ _, (hf.runs0 p.b w w1 hcalls hx).mono fun e w' ⟨g1, g2, g3, g4⟩ => ⟨_, g1, .tuple [], _, E, ⟨rfl, by rw [if_pos rfl]⟩, Ext.refl E, .tuple .nil, hR1.heapSame g2 g3 g4⟩⟩
  · refine .inl ⟨hf.enters _ _, (hf.runs p.b n w w1 hcalls hx hfz hbs (by omega) hn).mono fun x w' ⟨g1, c, g2, g3, g4⟩ => ?_⟩
    have hpush := hR1.pushRow (w' := w1.alloc (.cells c e)) (cs := []) (vs := []) (c := c) (e := e) (fz := (0, 0)) rfl rfl rfl .nil (List.nil_prefix) (.inl rfl)
    have hxx := Env.put_ext (E := E) (i := (H.set i (.row T [.ptr i 0, .nilsl])).next) (p := ⟨w1.heap.size, 0, c.size, e⟩) hR1.fresh
    have hp' := hxx.φ _ _ hp
    have hi2 : ((H.set i (.row T [.ptr i 0, .nilsl])).push (.row e [])).get i = some (.row T [.ptr i 0, .nilsl]) := by
      simp only [AHeap.get_push, AHeap.get_set]
      show (if i = H.next then _ else _) = _
      rw [if_neg (by omega)]; simp
    have hsl : VRel (E.put H.next ⟨w1.heap.size, 0, c.size, e⟩) (.sl H.next 0 1 0 0 true) (.slice (some ⟨w1.heap.size, 0, none⟩) 0 c.size) := by
      have := VRel.sl (E := E.put H.next ⟨w1.heap.size, 0, c.size, e⟩) (i := H.next) (o := 0) (z := 1) (len := 0) (cap := 0) (c' := c.size) (opn := true) (p := ⟨w1.heap.size, 0, c.size, e⟩) (by simp [Env.put]) (Nat.le_refl _) (Nat.zero_le _) (by simp) (by simp)
      simpa using this
    have hfin := (hpush.writeRow hi2 hp' (o := 1) (by simp) hsl rfl P).2
    rw [hs0, Nat.zero_add] at hfin
    exact ⟨_, g1, .tuple [], _, _, ⟨rfl, by rw [if_neg h0]; rfl⟩, hxx, .tuple .nil, hfin.heapSame g2 (g3.trans (by rfl)) (g4.trans (by rfl))⟩
end Go.Abs

/-
  strings.Builder in the evaluator: WriteString, String, Grow.
-/


namespace Go.Abs
open Go Go.RowKit

section
variable {R : Type}
noncomputable def twoK (cs : List AV) (f : AV → AV → R) (z : R) : R :=
  List.rec (motive := fun _ => R) z (fun a r _ => List.rec (motive := fun _ => R) z (fun b q _ => List.rec (motive := fun _ => R) (f a b) (fun _ _ _ => z) q) r) cs
end
theorem twoK_inv {cs : List AV} {f : AV → AV → Bool} (h : twoK cs f false = true) : ∃ a b, cs = [a, b] ∧ f a b = true := by
  match cs, h with
  | [a, b], h => exact ⟨a, b, rfl, h⟩
  | [], h => simp [twoK] at h
  | [_], h => simp [twoK] at h
  | _ :: _ :: _ :: _, h => simp [twoK] at h

/-- Nil, or the address of block i itself. -/
noncomputable def selfB (i : Nat) (v : AV) : Bool :=
  AV.rec (motive_1 := fun _ => Bool) (motive_2 := fun _ => Unit) (fun _ => false) (fun _ _ => false) (fun _ => false) true (fun j o => ifK (Nat.beq j i) (Nat.beq o 0) false) (fun _ _ => false) false (fun _ _ _ _ _ _ => false) (fun _ _ _ => false) false (fun _ => false) (fun _ _ _ _ _ => false) false (fun _ _ _ => false) false (fun _ _ => false) (fun _ _ => false) (fun _ _ _ => false) () (fun _ _ _ _ => ()) v
theorem selfB_inv {i : Nat} {v : AV} (h : selfB i v = true) : v = .nilptr ∨ v = .ptr i 0 := by
  cases v <;> first | (simp [selfB] at h; done) | exact .inl rfl | skip
  rename_i j o
  obtain ⟨h1, h2⟩ := ifK_inv (show ifK (Nat.beq j i) (Nat.beq o 0) false = true from h)
  right
  rw [Nat.eq_of_beq_eq_true h1, Nat.eq_of_beq_eq_true h2]

/-- Is a list empty? -/
noncomputable def nilB {α : Type} (l : List α) : Bool := List.rec (motive := fun _ => Bool) true (fun _ _ _ => false) l
theorem nilB_eq {α : Type} (l : List α) : nilB l = true ↔ l = [] := by cases l <;> simp [nilB]

noncomputable def bwK (T e : TypeId) (i : Nat) (s : List UInt8) (H : FH) (k : FH → Bool) : Bool :=
  H.rowK i (fun t cs => ifK (Nat.beq t T) (twoK cs (fun c0 c1 => ifK (selfB i c0) (ifK (Nat.ble (lenN s) 140737488355328)
    (c1.onSl false
      (ifK (nilB s) (H.putS i (.row T [.ptr i 0, .nilsl]) k)
        (H.putS i (.row T [.ptr i 0, .nilsl]) fun H => H.newS (.byt e s) (fun n H => natK (lenN s) fun l => H.putS i (.row T [.ptr i 0, .sl n 0 1 l l true]) k) false))
      (fun j o z n m opn => ifK (Nat.beq o 0) (ifK (Nat.beq z 1) (ifK opn (ifK (Nat.beq m n) (ifK (notK (Nat.beq j i)) (H.bytK j (fun u bs => ifK (Nat.beq u e) (ifK (Nat.beq n (lenN bs))
        (ifK (nilB s) (H.putS i (.row T [.ptr i 0, .sl j 0 1 n n true]) k)
          (natK (Nat.add n (lenN s)) fun l => ifK (Nat.ble l 140737488355328)
            (H.putS i (.row T [.ptr i 0, .sl j 0 1 n n true]) fun H => H.killK j (fun H => appK bs s fun r => H.newS (.byt e r) (fun q H => H.putS i (.row T [.ptr i 0, .sl q 0 1 l l true]) k) false) false) false))
        false) false) false) false) false) false) false) false)
      (fun _ _ => false)) false) false) false) false) false

theorem strCs_append (a b : List UInt8) : strCs (a ++ b) = strCs a ++ strCs b := by simp [strCs]
theorem strCs_length (a : List UInt8) : (strCs a).length = a.length := by simp [strCs]

theorem bWrite_sl {H : AHeap} {T e : TypeId} {i j n : Nat} {s : List UInt8} {cs : List AV} (hj : H.get j = some (.row e cs)) (hn : n = cs.length) (hji : j ≠ i) : bWrite H T e i (.sl j 0 1 n n true) s =
    (if s = [] then some (H.set i (.row T [.ptr i 0, .sl j 0 1 n n true]))
     else if n + s.length ≤ 140737488355328 then some ((((H.set i (.row T [.ptr i 0, .sl j 0 1 n n true])).kill j).push (.row e (cs ++ strCs s))).set i (.row T [.ptr i 0, .sl H.next 0 1 (n + s.length) (n + s.length) true])) else none) := by
  simp [bWrite, hj, hn, hji]

theorem bwK_inv {T e : TypeId} {i : Nat} {s : List UInt8} {H : FH} {k : FH → Bool} (h_0 : bwK T e i s H k = true) :
    ∃ c0 c1 H', H.abs.get i = some (.row T [c0, c1]) ∧ (c0 = .nilptr ∨ c0 = .ptr i 0) ∧ s.length ≤ 140737488355328 ∧ bWrite H.abs T e i c1 s = some (FH.abs H') ∧ k H' = true := by
  obtain ⟨t, cs, hg, h_1, hi⟩ := FH.rowK_inv h_0
  obtain ⟨h1, h_2⟩ := ifK_inv h_1
  obtain rfl := Nat.eq_of_beq_eq_true h1
  obtain ⟨c0, c1, rfl, h_3⟩ := twoK_inv h_2
  obtain ⟨h2, h_4⟩ := ifK_inv h_3
  obtain ⟨h3, h_5⟩ := ifK_inv h_4
  have h3 : lenN s ≤ 140737488355328 := Nat.le_of_ble_eq_true h3
  rw [lenN_eq] at h3
  refine ⟨c0, c1, ?_⟩
  have fin : ∀ H', bWrite H.abs t e i c1 s = some (FH.abs H') → k H' = true → ∃ H', H.abs.get i = some (.row t [c0, c1]) ∧ (c0 = .nilptr ∨ c0 = .ptr i 0) ∧ s.length ≤ 140737488355328 ∧ bWrite H.abs t e i c1 s = some (FH.abs H') ∧ k H' = true :=
    fun H' a b => ⟨H', hg, selfB_inv h2, h3, a, b⟩
  rcases AV.onSl_inv h_5 with ⟨rfl, q⟩ | ⟨j, o, z, n, m, opn, rfl, q⟩ | ⟨cs, n, rfl, q⟩
  · cases hs : nilB s with
    | true =>
      rw [hs, ifK_true] at q
      obtain ⟨H', k1, k2⟩ := FH.putS_inv hi q
      refine fin H' ?_ k2
      simp only [bWrite, if_pos ((nilB_eq s).1 hs)]
      rw [k1]; rfl
    | false =>
      rw [hs, ifK_false] at q
      have hne : ¬ s = [] := fun e => by rw [(nilB_eq s).2 e] at hs; simp at hs
      obtain ⟨H1, k1, q1⟩ := FH.putS_inv hi q
      obtain ⟨H2, k2, q2⟩ := FH.newS_inv q1
      rw [natK_eq, lenN_eq] at q2
      obtain ⟨H3, k3, q3⟩ := FH.putS_inv hi q2
      refine fin H3 ?_ q3
      simp only [bWrite, if_neg hne]
      have e1 : H1.next = H.abs.next := by have := congrArg AHeap.next k1; exact this
      rw [k3, k2, k1, e1]; rfl
  · obtain ⟨a1, q_1⟩ := ifK_inv q
    obtain ⟨a2, q_2⟩ := ifK_inv q_1
    obtain ⟨a3, q_3⟩ := ifK_inv q_2
    obtain ⟨a4, q_4⟩ := ifK_inv q_3
    obtain ⟨a5, q_5⟩ := ifK_inv q_4
    obtain ⟨u, bs, hb, q_6, hj⟩ := FH.bytK_inv q_5
    obtain ⟨a6, q_7⟩ := ifK_inv q_6
    obtain ⟨a7, q_8⟩ := ifK_inv q_7
    obtain rfl := Nat.eq_of_beq_eq_true a1
    obtain rfl := Nat.eq_of_beq_eq_true a2
    obtain rfl : opn = true := a3
    obtain rfl := Nat.eq_of_beq_eq_true a4
    obtain rfl := Nat.eq_of_beq_eq_true a6
    have a7 := Nat.eq_of_beq_eq_true a7
    rw [lenN_eq] at a7
    have hji : j ≠ i := fun e => by subst e; rw [Nat.beq_refl] at a5; simp [notK] at a5
    have hcond : (u = u ∧ m = (strCs bs).length ∧ m = m ∧ j ≠ i) := ⟨rfl, by rw [strCs_length]; exact a7, rfl, hji⟩
    cases hs : nilB s with
    | true =>
      rw [hs, ifK_true] at q_8
      obtain ⟨H', k1, k2⟩ := FH.putS_inv hi q_8
      refine fin H' ?_ k2
      rw [bWrite_sl hb hcond.2.1 hji, if_pos ((nilB_eq s).1 hs), k1]; rfl
    | false =>
      rw [hs, ifK_false, natK_eq] at q_8
      have hne : ¬ s = [] := fun e => by rw [(nilB_eq s).2 e] at hs; simp at hs
      obtain ⟨a8, q_9⟩ := ifK_inv q_8
      have a8 : m + lenN s ≤ 140737488355328 := Nat.le_of_ble_eq_true a8
      rw [lenN_eq] at a8
      obtain ⟨H1, k1, q1⟩ := FH.putS_inv hi q_9
      obtain ⟨H2, k2, q2⟩ := FH.killK_inv q1
      rw [appK_eq] at q2
      obtain ⟨H3, k3, q3⟩ := FH.newS_inv q2
      obtain ⟨H4, k4, q4⟩ := FH.putS_inv hi q3
      refine fin H4 ?_ q4
      rw [bWrite_sl hb hcond.2.1 hji, if_neg hne, if_pos a8]
      have e1 : H1.next = H.abs.next := by have := congrArg AHeap.next k1; exact this
      have e2 : H2.next = H.abs.next := by have := congrArg AHeap.next k2; exact this.trans e1
      rw [k4, k3, k2, k1, e2]
      have e3 : Nat.add m (lenN s) = m + s.length := by rw [lenN_eq]; rfl
      rw [e3]
      simp only [FSlot.abs, strCs_append]
  · simp at q

noncomputable def wsOv (T e : TypeId) (args : List AV) (H : FH) (k : AV → FH → Bool) : Bool :=
  twoK args (fun a b => a.onPtr false (fun i o => ifK (Nat.beq o 0) (b.onStr false fun s => bwK T e i s H fun H => natK (lenN s) fun n => k (.tuple [.int .i64 (.ofNat n), .niliface]) H) false) (fun _ => false)) false

theorem wsOv_good {P : Program} {G : Nat → Option AV} {f ck : FuncId} {T e t u uu : TypeId} (hck : IsCheck P ck T uu) (hf : IsWrite P f ck T e t u) (args : List AV) (H : FH) (k : AV → FH → Bool) (h : wsOv T e args H k = true) :
    ∃ v H', Does P G f args H.abs (fun r h => r = v ∧ h = FH.abs H') ∧ H.next ≤ H'.next ∧ k v H' = true := by
  obtain ⟨a, b, rfl, h⟩ := twoK_inv h
  rcases AV.onPtr_inv h with ⟨i, o, rfl, q⟩ | ⟨cs, rfl, q⟩
  case inr => simp at q
  obtain ⟨h1, q_1⟩ := ifK_inv q
  obtain rfl := Nat.eq_of_beq_eq_true h1
  rcases AV.onStr_inv q_1 with ⟨s, rfl, q_2⟩ | ⟨q_2, _⟩
  case inr => simp at q_2
  obtain ⟨c0, c1, H', g1, g2, g3, g4, g5⟩ := bwK_inv q_2
  rw [natK_eq, lenN_eq] at g5
  refine ⟨_, H', write_does hck hf g1 g2 g3 g4, ?_, g5⟩
  have hn : ∀ H2, bWrite H.abs T e i c1 s = some H2 → H.abs.next ≤ H2.next := by
    intro H2 h2
    unfold bWrite at h2
    split at h2
    · split at h2
      · simp only [Option.some.injEq] at h2; subst h2; exact Nat.le_refl _
      · simp only [Option.some.injEq] at h2; subst h2; exact Nat.le_succ _
    · split at h2 <;> try (simp at h2; done)
      split at h2 <;> try (simp at h2; done)
      split at h2
      · simp only [Option.some.injEq] at h2; subst h2; exact Nat.le_refl _
      · split at h2 <;> try (simp at h2; done)
        simp only [Option.some.injEq] at h2; subst h2; exact Nat.le_succ _
    · simp at h2
  exact hn _ g4

noncomputable def oneKK {R : Type} (cs : List AV) (f : AV → R) (z : R) : R := List.rec (motive := fun _ => R) z (fun a r _ => List.rec (motive := fun _ => R) (f a) (fun _ _ _ => z) r) cs
theorem oneKK_inv {cs : List AV} {f : AV → Bool} (h : oneKK cs f false = true) : ∃ a, cs = [a] ∧ f a = true := by
  match cs, h with
  | [a], h => exact ⟨a, rfl, h⟩
  | [], h => simp [oneKK] at h
  | _ :: _ :: _, h => simp [oneKK] at h

noncomputable def stOv (e : TypeId) (args : List AV) (H : FH) (k : AV → FH → Bool) : Bool :=
  oneKK args (fun a => a.onPtr false (fun i o => ifK (Nat.beq o 0) (H.rowK i (fun _ cs => twoK cs (fun _ c1 => c1.onSl false (k (.str []) H)
    (fun j o z n m opn => ifK (Nat.beq o 0) (ifK (Nat.beq z 1) (ifK opn (ifK (Nat.beq m n) (H.bytK j (fun u bs => ifK (Nat.beq u e) (ifK (Nat.beq n (lenN bs)) (ifK (notK (nilB bs)) (ifK (Nat.ble n 140737488355328) (H.killK j (fun H => k (.str bs) H) false) false) false) false) false) false) false) false) false) false)
    (fun _ _ => false)) false) false) false) (fun _ => false)) false

theorem stOv_good {P : Program} {G : Nat → Option AV} {f : FuncId} {e : TypeId} (hf : IsString P f e) (args : List AV) (H : FH) (k : AV → FH → Bool) (h : stOv e args H k = true) :
    ∃ v H', Does P G f args H.abs (fun r h => r = v ∧ h = FH.abs H') ∧ H.next ≤ H'.next ∧ k v H' = true := by
  obtain ⟨a, rfl, h⟩ := oneKK_inv h
  rcases AV.onPtr_inv h with ⟨i, o, rfl, q⟩ | ⟨cs, rfl, q⟩
  case inr => simp at q
  obtain ⟨h1, q_1⟩ := ifK_inv q
  obtain rfl := Nat.eq_of_beq_eq_true h1
  obtain ⟨t, cs, hg, q_2, hi⟩ := FH.rowK_inv q_1
  obtain ⟨c0, c1, rfl, q_3⟩ := twoK_inv q_2
  rcases AV.onSl_inv q_3 with ⟨rfl, q_0⟩ | ⟨j, o, z, n, m, opn, rfl, q_0⟩ | ⟨cs, n, rfl, q_0⟩
  · exact ⟨_, H, string_nil hf hg, Nat.le_refl _, q_0⟩
  · obtain ⟨a1, q_4⟩ := ifK_inv q_0
    obtain ⟨a2, q_5⟩ := ifK_inv q_4
    obtain ⟨a3, q_6⟩ := ifK_inv q_5
    obtain ⟨a4, q_7⟩ := ifK_inv q_6
    obtain ⟨u, bs, hb, q_8, hj⟩ := FH.bytK_inv q_7
    obtain ⟨a6, q_9⟩ := ifK_inv q_8
    obtain ⟨a7, q_10⟩ := ifK_inv q_9
    obtain ⟨a8, q_11⟩ := ifK_inv q_10
    obtain ⟨a9, q_12⟩ := ifK_inv q_11
    obtain rfl := Nat.eq_of_beq_eq_true a1
    obtain rfl := Nat.eq_of_beq_eq_true a2
    obtain rfl : opn = true := a3
    obtain rfl := Nat.eq_of_beq_eq_true a4
    obtain rfl := Nat.eq_of_beq_eq_true a6
    have a7 := Nat.eq_of_beq_eq_true a7
    rw [lenN_eq] at a7
    subst a7
    have hne : bs ≠ [] := fun e => by rw [(nilB_eq bs).2 e] at a8; simp [notK] at a8
    have a9 : bs.length ≤ 140737488355328 := Nat.le_of_ble_eq_true a9
    obtain ⟨H', k1, k2⟩ := FH.killK_inv q_12
    refine ⟨_, H', (string_some hf hg hb hne a9).mono fun r h hr => ⟨hr.1, hr.2.trans k1.symm⟩, ?_, k2⟩
    have := congrArg AHeap.next k1
    exact Nat.le_of_eq this.symm
  · simp at q_0

noncomputable def grOv (T e : TypeId) (args : List AV) (H : FH) (k : AV → FH → Bool) : Bool :=
  twoK args (fun a b => a.onPtr false (fun i o => ifK (Nat.beq o 0) (b.onInt false fun kd n => ifK (kindB kd .i64) (onNat n fun n => ifK (Nat.ble n 140737488355328) (H.rowK i (fun t cs => ifK (Nat.beq t T) (twoK cs (fun c0 c1 => ifK (selfB i c0) (c1.onSl false
    (H.putS i (.row T [.ptr i 0, .nilsl]) fun H => ifK (Nat.beq n 0) (k (.tuple []) H) (H.newS (.byt e []) (fun q H => H.putS i (.row T [.ptr i 0, .sl q 0 1 0 0 true]) fun H => k (.tuple []) H) false))
    (fun _ _ _ _ _ _ => false) (fun _ _ => false)) false) false) false) false) false) false) false) (fun _ => false)) false

theorem grOv_good {P : Program} {G : Nat → Option AV} {f ck : FuncId} {T e uu : TypeId} (hck : IsCheck P ck T uu) (hf : IsGrow P f ck e) (args : List AV) (H : FH) (k : AV → FH → Bool) (h : grOv T e args H k = true) :
    ∃ v H', Does P G f args H.abs (fun r h => r = v ∧ h = FH.abs H') ∧ H.next ≤ H'.next ∧ k v H' = true := by
  obtain ⟨a, b, rfl, h⟩ := twoK_inv h
  rcases AV.onPtr_inv h with ⟨i, o, rfl, q⟩ | ⟨cs, rfl, q⟩
  case inr => simp at q
  obtain ⟨h1, q_1⟩ := ifK_inv q
  obtain rfl := Nat.eq_of_beq_eq_true h1
  rcases AV.onInt_inv q_1 with ⟨kd, n0, rfl, q_0⟩ | ⟨q_0, _⟩
  case inr => simp at q_0
  obtain ⟨h2, q_2⟩ := ifK_inv q_0
  obtain rfl := kindB_eq.1 h2
  obtain ⟨n, rfl, q_3⟩ := onNat_inv q_2
  obtain ⟨h3, q_4⟩ := ifK_inv q_3
  have h3 : n ≤ 140737488355328 := Nat.le_of_ble_eq_true h3
  obtain ⟨t, cs, hg, q_5, hi⟩ := FH.rowK_inv q_4
  obtain ⟨h4, q_6⟩ := ifK_inv q_5
  obtain rfl := Nat.eq_of_beq_eq_true h4
  obtain ⟨c0, c1, rfl, q_7⟩ := twoK_inv q_6
  obtain ⟨h5, q_8⟩ := ifK_inv q_7
  rcases AV.onSl_inv q_8 with ⟨rfl, q_9⟩ | ⟨j, o, z, n, m, opn, rfl, q_9⟩ | ⟨cs, n, rfl, q_9⟩
  · obtain ⟨H1, k1, q1⟩ := FH.putS_inv hi q_9
    have e1 : H1.next = H.next := by have := congrArg AHeap.next k1; exact this
    cases hn : Nat.beq n 0 with
    | true =>
      obtain rfl := Nat.eq_of_beq_eq_true hn
      rw [hn, ifK_true] at q1
      refine ⟨_, H1, (grow_does hck hf hg (selfB_inv h5) h3).mono fun r h hr => ⟨hr.1, hr.2.trans ?_⟩, Nat.le_of_eq e1.symm, q1⟩
      rw [k1]; rfl
    | false =>
      rw [hn, ifK_false] at q1
      have hn0 : ¬ n = 0 := fun e => by subst e; simp at hn
      obtain ⟨H2, k2, q2⟩ := FH.newS_inv q1
      obtain ⟨H3, k3, q3⟩ := FH.putS_inv hi q2
      refine ⟨_, H3, (grow_does hck hf hg (selfB_inv h5) h3).mono fun r h hr => ⟨hr.1, hr.2.trans ?_⟩, ?_, q3⟩
      · rw [k3, k2, k1, e1]
        simp only [bGrow, if_neg hn0]
        rfl
      · have e3 := congrArg AHeap.next k3
        have e2 := congrArg AHeap.next k2
        have e3 : H3.next = H2.next := e3
        have e2 : H2.next = H1.next + 1 := e2
        omega
  · simp at q_9
  · simp at q_9
end Go.Abs

/-
  strings.Builder, at the level of the model, over this seat's own numbers: copyCheck, WriteString, String, Grow.
-/













namespace Go.Proofs.YtajcehcdmbfhaaaGreatDoor
open Go Go.Abs Go.RowKit


theorem neq_same {P : Program} (w : World) {tp te : TypeId} {j : TypeInfo} (a : Addr) (hp : P.underlying tp = some (.pointer te)) (hte : P.info? te = some j) (hj : j.size ≠ 0) :
    (binOp .neq tp (.pointer (some a)) (.pointer (some a))).run P w = .ok (.bool false) w := by
  have e : (sameAddr a a).run P w = .ok true w := by simp [sameAddr]
  have h : ∀ d : Nat, (Op.equalIn (d + 1) tp (.pointer (some a)) (.pointer (some a))).run P w = .ok true w := fun d => by
    simp [Op.equalIn, run_underlying hp, sizeOf, typeInfo, hte, hj, e]
  simp only [binOp]
  simp [Op.equal, Op.maxDepth, h 9999]

theorem builder_size : ∃ j, Tryz.prog.info? 54 = some j ∧ j.size ≠ 0 := ⟨Tryz.t54, by kernel_rfl, by
  have : Tryz.t54.size = 2 := by kernel_rfl
  omega⟩

set_option maxRecDepth 100000 in
theorem copyCheck_fresh (b n : Nat) (w : World) (h0 : w.cell? ⟨b, 0, none⟩ = some (.pointer none)) (T : TypeId) (hsh : w.shape? b = some (T, n)) (hn : 0 < n) (hl : liesAt Tryz.prog Tryz.prog.depth T (n / Tryz.prog.cellsOf T) 0 54 1 = true)
    (hfz : w.frozen? ⟨b, 0, none⟩ = false) : Calls Tryz.prog 32 #[.pointer (some ⟨b, 0, none⟩)] w fun e w' => e = .returned (.tuple #[]) ∧ w' = w.setCell ⟨b, 0, none⟩ (.pointer (some ⟨b, 0, none⟩)) := by
  obtain ⟨j, hi, hs⟩ := builder_size
  go_enter Tryz.func32, Tryz.ntmps32
  go_wp2
  rw [to_unsafe w ⟨b, 0, none⟩ Tryz.underlying52 Tryz.underlying204 hi hs hsh hn]
  simp only [Result.andThen]
  rw [Oper.upon_value]
  go_wp2
  rw [run_callFunc_extern Tryz.func71 (by kernel_rfl) (by kernel_rfl) (by kernel_rfl) (e := Extern.AbiNoEscape.same) (by kernel_rfl)]
  rw [show (Extern.AbiNoEscape.same #[.pointer (some ⟨b, 0, none⟩)]).run Tryz.prog w = .ok (.pointer (some ⟨b, 0, none⟩)) w from rfl]
  simp only [Result.andThen]
  rw [Oper.upon_value]
  go_wp2
  rw [from_unsafe w ⟨b, 0, none⟩ Tryz.underlying204 Tryz.underlying52 hi hsh hl]
  simp only [Result.andThen]
  rw [Oper.upon_value]
  go_wp2
  go_end0
  exact ⟨rfl, rfl⟩

set_option maxRecDepth 100000 in
theorem copyCheck_used (b : Nat) (w : World) (h0 : w.cell? ⟨b, 0, none⟩ = some (.pointer (some ⟨b, 0, none⟩))) :
    Calls Tryz.prog 32 #[.pointer (some ⟨b, 0, none⟩)] w fun e w' => e = .returned (.tuple #[]) ∧ w' = w := by
  obtain ⟨j, hi, hs⟩ := builder_size
  go_enter Tryz.func32, Tryz.ntmps32
  go_wp2
  rw [neq_same w _ Tryz.underlying52 hi hs]
  go_wp2
  go_end0
  exact ⟨rfl, rfl⟩

theorem wpList_appends {P : Program} {ops : Array Oper} {Q : Exit → Act → World → Prop} {rest : List Oper} {a : Act} {w w' : World} {dst : Option Tmp} {t u ty : TypeId} {x y : Operand} {pos : String} {after : Array Edge} {v : Value}
    (h : (Builtin.append_ #[t, u] ty #[a.eval x, a.eval y]).run P w = .ok v w')
    (hk : wpList P ops Q rest (a.put dst v) w') : wpList P ops Q ({ dst, op := .call { callee := .builtin .append, args := #[x, y], argTypes := #[t, u] }, type := ty, pos, after, guard := none } :: rest) a w := by
  unfold wpList
  have hw : Region.wanted { dst, op := .call { callee := .builtin .append, args := #[x, y], argTypes := #[t, u] }, type := ty, pos, after, guard := none : Oper } (yielded ops a.tmps) = true := rfl
  rw [hw, if_pos rfl]
  refine .inl (wp_of_run (.inl ?_) hk)
  simp only [execOp, resolve, invoke, builtin, Sem.run_bind, Sem.run_pure, Result.andThen_ok, List.map_toArray, List.map_cons, List.map_nil, h]

set_option maxRecDepth 100000 in
theorem writeString_runs (b : Nat) (s : ByteArray) (x x' y : Value) (w w1 w2 : World) (hck : Calls Tryz.prog 32 #[.pointer (some ⟨b, 0, none⟩)] w fun e w' => e = .returned (.tuple #[]) ∧ w' = w1)
    (h1 : w1.cell? ⟨b, 1, none⟩ = some x) (happ : (Builtin.append_ #[23, 9] 23 #[x, .string s]).run Tryz.prog w1 = .ok x' w2)
    (ao : Option Addr) (n c : Nat) (hx' : x' = .slice ao n c) (h2 : w2.cell? ⟨b, 1, none⟩ = some y) (hfz : w2.frozen? ⟨b, 1, none⟩ = false) :
    Calls Tryz.prog 13 #[.pointer (some ⟨b, 0, none⟩), .string s] w fun e w' => e = .returned (.tuple #[.int .i64 s.size, .nilIface]) ∧ w' = w2.setCell ⟨b, 1, none⟩ x' := by
  subst hx'
  go_enter Tryz.func13, Tryz.ntmps13
  go_wp2_with (go_at_call 32; refine hck.mono ?_)
  rintro e w1 ⟨rfl, rfl⟩
  go_wp2_with (at_builtin; refine wpList_appends happ ?_)
  go_ret2
  exact ⟨rfl, rfl⟩

theorem isCheck : IsCheck Tryz.prog 32 54 54 := ⟨Tryz.call32, by kernel_rfl, by kernel_rfl, fun b n w h0 hsh hn hl hfz => copyCheck_fresh b n w h0 54 hsh hn hl hfz, copyCheck_used⟩
theorem isWrite : IsWrite Tryz.prog 13 32 54 5 23 9 := ⟨Tryz.call13, Tryz.underlying23, Tryz.underlying9, ⟨Tryz.t5, .int .u8 0, by kernel_rfl, by kernel_rfl, rfl, by kernel_rfl, by kernel_rfl⟩, writeString_runs⟩


set_option maxHeartbeats 2000000 in
set_option maxRecDepth 100000 in
theorem string_none (b : Nat) (w : World) (h : w.cell? ⟨b, 1, none⟩ = some (.slice none 0 0)) : Calls Tryz.prog 15 #[.pointer (some ⟨b, 0, none⟩)] w fun e w' => e = .returned (.string ⟨#[]⟩) ∧ Below w.heap.size w w' := by
  have hUS : ∀ (W : World) (q : Option Addr), (Builtin.unsafeString_ #[131, 3] 9 #[.pointer q, .int .i64 0]).run Tryz.prog W = .ok (.string .empty) W := fun W q => Lib.run_unsafeString_none W _ _ _ q
  have c1 : w.drew.cell? ⟨b, 1, none⟩ = some (.slice none 0 0) := h
  have hSD : (Builtin.unsafeSliceData_ #[23] 131 #[.slice none 0 0]).run Tryz.prog w.drew = .ok (.pointer none) w.drew := rfl
  go_enter Tryz.func15, Tryz.ntmps15
  go_wp2
  go_region
  all_goals (go_wp2; go_ret; exact ⟨rfl, Below.drew (Below.refl _ w)⟩)

theorem freeze_other (w : World) (g n : Nat) : (∀ C, C ≠ g → (w.drew.freeze ⟨g, 0, none⟩ n).heap[C]? = w.heap[C]?) ∧ (w.drew.freeze ⟨g, 0, none⟩ n).os = w.os ∧ (w.drew.freeze ⟨g, 0, none⟩ n).output = w.output := by
  refine ⟨fun C hC => ?_, ?_, ?_⟩
  · simp only [World.freeze]
    split
    · rfl
    · simp only [Array.getElem?_modify]
      rw [if_neg (fun e => hC e.symm)]; rfl
  · simp only [World.freeze]; split <;> rfl
  · simp only [World.freeze]; split <;> rfl

set_option maxHeartbeats 2000000 in
set_option maxRecDepth 100000 in
theorem string_some' (b g cap : Nat) (l : List UInt8) (c : Array Value) (fz : Nat × Nat) (w : World) (h : w.cell? ⟨b, 1, none⟩ = some (.slice (some ⟨g, 0, none⟩) l.length cap)) (hg : w.heap[g]? = some (.cells c 5 fz)) (hc : ∀ (j : Nat) (x : UInt8), l[j]? = some x → w.cell? ⟨g, j, none⟩ = some (.int .u8 x.toNat))
    (h0 : l ≠ []) (hlc : l.length ≤ cap) (hcs : cap ≤ c.size) (hl : l.length ≤ 140737488355328) : Calls Tryz.prog 15 #[.pointer (some ⟨b, 0, none⟩)] w fun e w' => e = .returned (.string ⟨l.toArray⟩) ∧ (∀ C, C ≠ g → w'.heap[C]? = w.heap[C]?) ∧ w'.os = w.os ∧ w'.output = w.output := by
  have hl0 : l.length ≠ 0 := by simpa using h0
  have hco : Tryz.prog.cellsOf 5 = 1 := by kernel_rfl
  have c1 : w.drew.cell? ⟨b, 1, none⟩ = some (.slice (some ⟨g, 0, none⟩) l.length cap) := h
  have hSD : (Builtin.unsafeSliceData_ #[23] 131 #[.slice (some ⟨g, 0, none⟩) l.length cap]).run Tryz.prog w.drew = .ok (.pointer (some ⟨g, 0, none⟩)) w.drew :=
    Lib.run_unsafeSliceData_row _ _ _ _ _ _ (by omega)
  have hUS : (Builtin.unsafeString_ #[131, 3] 9 #[.pointer (some ⟨g, 0, none⟩), .int .i64 l.length]).run Tryz.prog w.drew = .ok (.string ⟨l.toArray⟩) (w.drew.freeze ⟨g, 0, none⟩ l.length) := by
    refine Lib.run_unsafeString_row w.drew 131 3 9 5 Tryz.underlying131 hco g c.size (by have hg' : w.drew.heap[g]? = some (.cells c 5 fz) := hg; simp [World.shape?, hg']) l h0 (by omega) (by omega) ?_
    intro j x hx
    rw [Addr.add_mk, Nat.zero_add]
    exact hc j x hx
  have hfin := freeze_other w g l.length
  go_enter Tryz.func15, Tryz.ntmps15
  go_wp2
  go_region
  all_goals (go_wp2; go_ret; exact ⟨rfl, hfin⟩)

theorem isString : IsString Tryz.prog 15 5 := ⟨Tryz.call15, string_none, string_some'⟩


theorem swap_heap (w : World) (b : Nat) (v : Value) (ob : Obj) (hlt : b < w.heap.size) : ((w.setCell ⟨b, 1, none⟩ v).alloc ob).heap = ((w.alloc ob).setCell ⟨b, 1, none⟩ v).heap := by
  apply Array.ext_getElem?
  intro k
  simp only [World.alloc, World.setCell, Array.getElem?_modify, Array.getElem?_push, Array.size_modify]
  by_cases e : k = w.heap.size
  · subst e
    rw [if_pos rfl, if_neg (by omega), if_pos rfl]
  · rw [if_neg e, if_neg e]

set_option maxHeartbeats 2000000 in
set_option maxRecDepth 1000000 in
theorem grow_fresh (b n : Nat) (w : World) (h : w.cell? ⟨b, 1, none⟩ = some (.slice none 0 0)) (hfz : w.frozen? ⟨b, 1, none⟩ = false) (hlt : b < w.heap.size) (hn : n ≤ 140737488355328) :
    Calls Tryz.prog 184 #[.pointer (some ⟨b, 0, none⟩), .int .i64 n] w fun x w' => x = .returned (.tuple #[]) ∧ ∃ c : Array Value, w'.heap = ((w.alloc (.cells c 5)).setCell ⟨b, 1, none⟩ (.slice (some ⟨w.heap.size, 0, none⟩) 0 c.size)).heap ∧ w'.os = w.os ∧ w'.output = w.output := by
  obtain ⟨cs, hrun, hle, hmax⟩ := Lib.run_makeNoZero (P := Tryz.prog) w.drew #[3] 23 5 Tryz.underlying23 n (by omega)
  have hw : IntKind.i64.wrap (IntKind.i64.wrap 0 + (n : Int)) = n := by
    rw [IntKind.wrap_i64, IntKind.wrap_i64]
    omega
  have hcall : (callFunc 268 #[.int .i64 (IntKind.i64.wrap (IntKind.i64.wrap 0 + (n : Int)))]).run Tryz.prog w.drew = .ok (.value (.slice (some ⟨w.drew.heap.size, 0, none⟩) n cs.size)) (w.drew.drew.drew.alloc (.cells cs 5)) := by
    rw [hw, run_callFunc_extern Tryz.func268 (by kernel_rfl) (by kernel_rfl) (by kernel_rfl) (e := Extern.BytealgMakeNoZero.makeNoZero #[3] #[23]) (by kernel_rfl), hrun]
    rfl
  have c1 : w.drew.cell? ⟨b, 1, none⟩ = some (.slice none 0 0) := h
  have hold : (w.alloc (.cells cs 5)).heap[b]? = w.heap[b]? := Lib.alloc_old w _ b hlt
  have c2 : (w.alloc (.cells cs 5)).cell? ⟨b, 1, none⟩ = some (.slice none 0 0) := by
    have : (w.alloc (.cells cs 5)).cell? ⟨b, 1, none⟩ = w.cell? ⟨b, 1, none⟩ := by simp only [World.cell?, hold]
    rw [this]; exact h
  have f2 : (w.alloc (.cells cs 5)).frozen? ⟨b, 1, none⟩ = false := by
    have : (w.alloc (.cells cs 5)).frozen? ⟨b, 1, none⟩ = w.frozen? ⟨b, 1, none⟩ := by simp only [World.frozen?, hold]
    rw [this]; exact hfz
  have hcopy : ∀ W : World, (Builtin.copy_ #[23, 23] 3 #[.slice (some ⟨w.heap.size, 0, none⟩) 0 cs.size, .slice none 0 0]).run Tryz.prog W = .ok (goInt 0) W :=
    fun W => run_copy_none W 23 23 3 5 _ _ 0 cs.size 0 0 Tryz.underlying23 (by kernel_rfl) rfl
  clear hw
  go_enter Tryz.func184, Tryz.ntmps184
  go_wp2
  go_region
  all_goals (go_wp2; go_end0; exact ⟨rfl, cs, swap_heap w b _ _ hlt, rfl, rfl⟩)

set_option maxHeartbeats 2000000 in
set_option maxRecDepth 1000000 in
theorem Grow_runs (b n : Nat) (w w1 : World) (hck : Calls Tryz.prog 32 #[.pointer (some ⟨b, 0, none⟩)] w fun e w' => e = .returned (.tuple #[]) ∧ w' = w1)
    (h : w1.cell? ⟨b, 1, none⟩ = some (.slice none 0 0)) (hfz : w1.frozen? ⟨b, 1, none⟩ = false) (hlt : b < w1.heap.size) (h0 : 0 < n) (hn : n ≤ 140737488355328) :
    Calls Tryz.prog 95 #[.pointer (some ⟨b, 0, none⟩), .int .i64 n] w fun x w' => x = .returned (.tuple #[]) ∧ ∃ c : Array Value, w'.heap = ((w1.alloc (.cells c 5)).setCell ⟨b, 1, none⟩ (.slice (some ⟨w1.heap.size, 0, none⟩) 0 c.size)).heap ∧ w'.os = w1.os ∧ w'.output = w1.output := by
  have hgr := grow_fresh b n w1.drew h hfz hlt hn
  have c1 : w1.drew.cell? ⟨b, 1, none⟩ = some (.slice none 0 0) := h
  go_enter Tryz.func95, Tryz.ntmps95
  go_wp2_with (go_at_call 32; refine hck.mono ?_)
  rintro e w1 ⟨rfl, rfl⟩
  go_wp2
  go_region
  all_goals go_wp2_with (go_at_call 184; refine hgr.mono ?_; rintro e w2 ⟨rfl, h2⟩)
  all_goals first
    | (go_end0; exact ⟨rfl, h2⟩)
    | omega

set_option maxHeartbeats 2000000 in
set_option maxRecDepth 1000000 in
theorem Grow_none (b : Nat) (w w1 : World) (hck : Calls Tryz.prog 32 #[.pointer (some ⟨b, 0, none⟩)] w fun e w' => e = .returned (.tuple #[]) ∧ w' = w1)
    (h : w1.cell? ⟨b, 1, none⟩ = some (.slice none 0 0)) :
    Calls Tryz.prog 95 #[.pointer (some ⟨b, 0, none⟩), .int .i64 0] w fun x w' => x = .returned (.tuple #[]) ∧ w'.heap = w1.heap ∧ w'.os = w1.os ∧ w'.output = w1.output := by
  have c1 : w1.drew.cell? ⟨b, 1, none⟩ = some (.slice none 0 0) := h
  go_enter Tryz.func95, Tryz.ntmps95
  go_wp2_with (go_at_call 32; refine hck.mono ?_)
  rintro e w1 ⟨rfl, rfl⟩
  go_wp2
  go_region
  all_goals (go_wp2; go_end0; exact ⟨rfl, rfl, rfl, rfl⟩)

theorem isGrow : IsGrow Tryz.prog 95 32 5 := ⟨Tryz.call95, Grow_runs, Grow_none⟩


/- internal/stringslite.Clone: the same bytes; of what was there nothing has turned. -/
set_option maxRecDepth 100000 in
theorem clone_runs (s : ByteArray) (w : World) (hlim : s.size ≤ 281474976710656) : Calls Tryz.prog 456 #[.string s] w fun e w' => e = .returned (.string s) ∧ Below w.heap.size w w' := by
  by_cases h0 : s.size = 0
  · obtain rfl : s = ⟨#[]⟩ := ByteArray.ext (Array.eq_empty_of_size_eq_zero h0)
    go_enter Tryz.func456, Tryz.ntmps456
    go_wp2
    go_ret
    exact ⟨rfl, Below.refl _ _⟩
  · have hi : Tryz.prog.info? 5 = some Tryz.t5 := by kernel_rfl
    have hz0 : Tryz.t5.zero = some (.int .u8 0) := by kernel_rfl
    have hz1 : Tryz.t5.size = 1 := by kernel_rfl
    have hz2 : Tryz.t5.bytes = 1 := by kernel_rfl
    have hinfo : (Tryz.prog.info? 5).map (·.size) = some 1 := by kernel_rfl
    have hco : Tryz.prog.cellsOf 5 = 1 := by kernel_rfl
    have u29 : Tryz.prog.underlying 23 = some (.slice 5) := Tryz.underlying23
    have u94 : Tryz.prog.underlying 131 = some (.pointer 5) := Tryz.underlying131
    have z5 : ∀ w, (Go.sizeOf 5).run Tryz.prog w = .ok 1 w := fun w => by kernel_rfl
    obtain ⟨M, hM⟩ : ∃ M, M = madeCells (Value.int .u8 0).cells (((s.size : Nat) : Int).toNat * Tryz.t5.size) := ⟨_, rfl⟩
    have hMs : M.size = s.size := by rw [hM, size_madeCells, hz1]; simp
    have hmk : ∀ W : World, (Instr.makeSlice 23 (.int .i64 (s.size : Int)) (.int .i64 (s.size : Int))).run Tryz.prog W = .ok (.slice (some ⟨W.heap.size, 0, none⟩) s.size s.size) (W.alloc (.cells M 5)) := fun W => by
      have h := run_make (P := Tryz.prog) W 23 5 Tryz.t5 (.int .u8 0) u29 hi hz0 .i64 .i64 (s.size : Int) (s.size : Int) (by omega) (by omega) (by rw [hz2]; omega) (by omega)
      rw [← hM] at h
      simpa using h
    clear hM
    have hcp := Lib.run_copy_row_string (P := Tryz.prog) (w.alloc (.cells M 5)) 23 9 3 5 w.heap.size 0 s.size s.size s M 5 u29 hinfo (heap_alloc_new w _) (Nat.le_refl _) (by omega)
    obtain ⟨Y, hY⟩ : ∃ Y, Y = (M.toList.take 0 ++ Lib.byteCells s.data.toList ++ M.toList.drop (0 + s.size)).toArray := ⟨_, rfl⟩
    rw [← hY] at hcp
    have hYl : Y.toList = Lib.byteCells s.data.toList := by
      rw [hY, List.toList_toArray, List.take_zero, List.nil_append, List.drop_of_length_le (by rw [Array.length_toList]; omega), List.append_nil]
    have hYs : Y.size = s.size := by rw [← Array.length_toList, hYl, Lib.byteCells_length, ← Lib.size_eq]
    have hgY : ((w.alloc (.cells M 5)).setRow w.heap.size Y).heap[w.heap.size]? = some (.cells Y 5 (0, 0)) := setRow_heap _ _ M _ 5 (0, 0) (heap_alloc_new w _)
    have hne : s.data.toList ≠ [] := fun e => h0 (by rw [Lib.size_eq, e]; rfl)
    have hUS := Lib.run_unsafeString_row (P := Tryz.prog) ((w.alloc (.cells M 5)).setRow w.heap.size Y) 131 3 9 5 u94 hco w.heap.size Y.size (by unfold World.shape?; rw [hgY]) s.data.toList hne (by rw [← Lib.size_eq]; omega) (by rw [← Lib.size_eq]; omega)
      (fun j x hx => Lib.cells_of_row hgY Y.size j _ (by rw [List.take_of_length_le (by rw [Array.length_toList]; exact Nat.le_refl _), hYl]; simp [Lib.byteCells, hx]))
    rw [← Lib.size_eq] at hUS
    clear hY
    go_enter Tryz.func456, Tryz.ntmps456
    go_wp2
    go_ret
    have hb1 : Below w.heap.size w (w.alloc (.cells M 5)) := (Below.refl _ w).alloc (Nat.le_refl _) _
    have hb2 : Below w.heap.size (w.alloc (.cells M 5)) ((w.alloc (.cells M 5)).setRow w.heap.size Y) := ⟨rfl, rfl, rfl, by simp, fun k hk => setRow_other _ _ _ _ (by omega)⟩
    exact ⟨rfl, Lib.below_freeze (hb1.trans hb2) (p := ⟨w.heap.size, 0, none⟩) (Nat.le_refl _) _⟩

theorem isCopy : IsCopy Tryz.prog 456 := ⟨Tryz.call456, clone_runs⟩

end Go.Proofs.YtajcehcdmbfhaaaGreatDoor

/-
  Words in plain Lean: what the second reader of texts leans on.
-/

namespace Go.Lex

theorem betw_line' (s q : Bs) (h : s.dropWhile isBlank = 45 :: 45 :: q) : betw s = betw (q.dropWhile fun b => b != 10) := by
  rw [betw]
  split
  · rename_i q' h'
    rw [h] at h'
    simp only [List.cons.injEq, true_and] at h'
    rw [h']
  · rename_i h'
    exact absurd h (h' q)
theorem betw_word' (s : Bs) (h : ∀ q, s.dropWhile isBlank ≠ 45 :: 45 :: q) : betw s = s.dropWhile isBlank := by
  rw [betw]
  split
  · rename_i q hq
    exact absurd hq (h q)
  · rfl

theorem betw_blank {b : UInt8} {s : Bs} (h : isBlank b = true) : betw (b :: s) = betw s := by
  have e : (b :: s).dropWhile isBlank = s.dropWhile isBlank := by rw [List.dropWhile_cons, if_pos h]
  by_cases hq : ∃ q, s.dropWhile isBlank = 45 :: 45 :: q
  · obtain ⟨q, hq⟩ := hq
    rw [betw_line' _ q (e.trans hq), betw_line' _ q hq]
  · have hn : ∀ q, s.dropWhile isBlank ≠ 45 :: 45 :: q := fun q h => hq ⟨q, h⟩
    rw [betw_word' s hn, betw_word' _ (by rw [e]; exact hn), e]

theorem betw_rem (q : Bs) : betw (45 :: 45 :: q) = betw (q.dropWhile fun b => b != 10) := betw_line' _ q rfl

theorem betw_here {b : UInt8} {s : Bs} (h : isBlank b = false) (h2 : ∀ q, b :: s ≠ 45 :: 45 :: q) : betw (b :: s) = b :: s := by
  have e : (b :: s).dropWhile isBlank = b :: s := by rw [List.dropWhile_cons, h]; rfl
  rw [betw_word' _ (by rw [e]; exact h2), e]

theorem betw_nil' : betw [] = [] := betw_word' [] (fun q h => by simp at h)

/-- A word is a beginning of the text, not empty. -/
theorem wordS_text {s : Bs} {w : Wd} (h : wordS s = some w) : w.text <+: s ∧ w.text ≠ [] := by
  cases s with
  | nil => simp [wordS] at h
  | cons c q =>
    simp only [wordS] at h
    split at h
    · rename_i hL
      have hne : (c :: q).takeWhile isNamec ≠ [] := by
        rw [List.takeWhile_cons, if_pos (by simp [isNamec, hL])]; simp
      split at h
      · simp only [Option.some.injEq] at h; subst h; exact ⟨List.takeWhile_prefix _, hne⟩
      · split at h
        · simp only [Option.some.injEq] at h; subst h; exact ⟨List.takeWhile_prefix _, hne⟩
        · simp at h
    · split at h
      · rename_i hD
        have hne : (c :: q).takeWhile isDigit ≠ [] := by
          rw [List.takeWhile_cons, if_pos hD]; simp
        split at h
        · simp only [Option.some.injEq] at h; subst h; exact ⟨List.takeWhile_prefix _, hne⟩
        · simp at h
      · split at h
        · rename_i t ht
          simp only [Option.some.injEq] at h; subst h
          have h1 := List.find?_some ht
          have h2 := List.mem_of_find?_eq_some ht
          refine ⟨List.isPrefixOf_iff_prefix.1 h1, ?_⟩
          rintro rfl
          exact absurd h2 (by decide)
        · simp at h

/-- One round of a cut. -/
theorem cutS_end {n : Nat} {s : Bs} (h : betw s = []) : cutS n s = .ok [] := by
  rw [cutS]; split
  · rfl
  · rename_i h'; rw [h] at h'; simp at h'
theorem cutS_bad {n : Nat} {s q : Bs} {c : UInt8} (h : betw s = c :: q) (hw : wordS (c :: q) = none) : cutS n s = .error (n - (c :: q).length) := by
  rw [cutS]; split
  · rename_i h'; rw [h] at h'; simp at h'
  · rename_i b r h'
    rw [h] at h'
    simp only [List.cons.injEq] at h'
    obtain ⟨rfl, rfl⟩ := h'
    rw [hw]; rfl
theorem cutS_word {n : Nat} {s q : Bs} {c : UInt8} {w : Wd} (h : betw s = c :: q) (hw : wordS (c :: q) = some w) :
    cutS n s = match cutS n ((c :: q).drop w.text.length) with
      | .ok l => .ok ((n - (c :: q).length, w) :: l)
      | .error e => .error e := by
  rw [cutS]; split
  · rename_i h'; rw [h] at h'; simp at h'
  · rename_i b r h'
    rw [h] at h'
    simp only [List.cons.injEq] at h'
    obtain ⟨rfl, rfl⟩ := h'
    rw [hw]
    obtain ⟨_, hne⟩ := wordS_text hw
    have h1 : (c :: q).drop w.text.length = q.drop (w.text.length - 1) := by
      have h0 : w.text.length ≠ 0 := by simpa using hne
      obtain ⟨k, hk⟩ : ∃ k, w.text.length = k + 1 := ⟨w.text.length - 1, by omega⟩
      rw [hk]; rfl
    rw [h1]; rfl

/-- What is cut ahead of the rest. -/
def aheadW (ws : List (Nat × Wd)) : Except Nat (List (Nat × Wd)) → Except Nat (List (Nat × Wd))
  | .ok l => .ok (ws ++ l)
  | .error e => .error e

/-- A cut looks at what stands behind the blanks alone. -/
theorem cutS_congr {n : Nat} {s s' : Bs} (h : betw s = betw s') : cutS n s = cutS n s' := by
  cases h1 : betw s with
  | nil => rw [cutS_end h1, cutS_end (h.symm.trans h1)]
  | cons c q =>
    cases hw : wordS (c :: q) with
    | none => rw [cutS_bad h1 hw, cutS_bad (h.symm.trans h1) hw]
    | some w => rw [cutS_word h1 hw, cutS_word (h.symm.trans h1) hw]

theorem numVal_snoc' (s : Bs) (b : UInt8) : numVal (s ++ [b]) = 10 * numVal s + (b.toNat - 48) := by simp [numVal]

theorem snoc_ind {P : Bs → Prop} (h0 : P []) (h : ∀ s b, P s → P (s ++ [b])) (s : Bs) : P s := by
  have key : ∀ l : Bs, P l.reverse := by
    intro l
    induction l with
    | nil => exact h0
    | cons b l ih => rw [List.reverse_cons]; exact h _ _ ih
  have := key s.reverse
  rwa [List.reverse_reverse] at this

/-- A row of digits without a nought ahead is at least as great as its length says. -/
theorem numVal_low (c : UInt8) (hc : isDigit c = true) (h0 : c ≠ 48) : ∀ s : Bs, (∀ b ∈ s, isDigit b = true) → 10 ^ s.length ≤ numVal (c :: s) := by
  intro s
  refine snoc_ind (P := fun s => (∀ b ∈ s, isDigit b = true) → 10 ^ s.length ≤ numVal (c :: s)) ?_ ?_ s
  · intro _
    simp only [isDigit, Bool.and_eq_true, decide_eq_true_eq] at hc
    have : c.toNat ≠ 48 := fun e => h0 (UInt8.toNat_inj.1 e)
    simp [numVal]
    omega
  · intro s b ih hs
    have h1 := ih fun x hx => hs x (by simp [hx])
    have e : c :: (s ++ [b]) = (c :: s) ++ [b] := rfl
    rw [e, numVal_snoc', List.length_append, List.length_singleton, Nat.pow_succ]
    omega

theorem numVal_high : ∀ (s : Bs), (∀ b ∈ s, isDigit b = true) → numVal s < 10 ^ s.length := by
  intro s
  refine snoc_ind (P := fun s => (∀ b ∈ s, isDigit b = true) → numVal s < 10 ^ s.length) ?_ ?_ s
  · intro _; simp [numVal]
  · intro s b ih hs
    have h1 := ih fun x hx => hs x (by simp [hx])
    have hb := hs b (by simp)
    simp only [isDigit, Bool.and_eq_true, decide_eq_true_eq] at hb
    rw [numVal_snoc', List.length_append, List.length_singleton, Nat.pow_succ]
    omega
end Go.Lex

/-
  Data that came in, as abstract values: bools, whole numbers, strings, structs, slices of them.
-/



namespace Go.Abs
open Go Go.ChangeShapes

/-- Fields that lie one behind the other. -/
def consec (P : Program) : List Field → Nat → Option Nat
  | [], o => some o
  | f :: r, o => if f.offset = o then consec P r (o + P.cellsOf f.type) else none

/-- A type of plain data. -/
def plainTy (P : Program) : Nat → TypeId → Bool
  | 0, _ => false
  | n + 1, t => match P.underlying t with
    | some .bool => P.cellsOf t == 1
    | some (.int _) => P.cellsOf t == 1
    | some .string => P.cellsOf t == 1
    | some (.slice e) => P.cellsOf t == 1 && decide (0 < P.cellsOf e) && plainTy P n e
    | some (.struct fs) => (consec P fs.toList 0 == some (P.cellsOf t)) && fs.toList.all fun f => plainTy P n f.type
    | _ => false

/-- What the cells of a value of that type look like. -/
def Shp (P : Program) : Nat → TypeId → List AV → Prop
  | 0, _, _ => False
  | n + 1, t, as_ => match P.underlying t with
    | some .bool => ∃ b, as_ = [.bool b]
    | some (.int k) => ∃ m, as_ = [.int k m] ∧ (Lit.int k m).wf = true
    | some .string => ∃ s, as_ = [.str s] ∧ s.length ≤ maxLen
    | some (.slice e) => as_ = [.nilsl] ∨ ∃ es : List (List AV), as_ = [.vsl es.flatten es.length] ∧ es.length ≤ maxLen ∧ ∀ x ∈ es, Shp P n e x
    | some (.struct fs) => ∃ xs : List (List AV), as_ = xs.flatten ∧ xs.length = fs.toList.length ∧ ∀ (i : Nat) (f : Field) (x : List AV), fs.toList[i]? = some f → xs[i]? = some x → Shp P n f.type x
    | _ => False

theorem Shp.length {P : Program} : ∀ {n : Nat} {t : TypeId} {as_ : List AV}, plainTy P n t = true → Shp P n t as_ → as_.length = P.cellsOf t
  | 0, _, _, h, _ => by simp [plainTy] at h
  | n + 1, t, as_, h, hs => by
    unfold plainTy at h
    unfold Shp at hs
    split at h
    · rename_i hu; rw [hu] at hs; obtain ⟨b, rfl⟩ := hs; simp at h; simp [h]
    · rename_i hu; rw [hu] at hs; obtain ⟨m, rfl, _⟩ := hs; simp at h; simp [h]
    · rename_i hu; rw [hu] at hs; obtain ⟨m, rfl, _⟩ := hs; simp at h; simp [h]
    · rename_i hu; rw [hu] at hs
      simp only [Bool.and_eq_true, beq_iff_eq] at h
      rcases hs with rfl | ⟨es, rfl, _⟩ <;> simp [h.1.1]
    · rename_i fs hu
      rw [hu] at hs
      simp only [Bool.and_eq_true, beq_iff_eq] at h
      obtain ⟨xs, rfl, hl, hx⟩ := hs
      have key : ∀ (l : List Field) (xs : List (List AV)) (o e : Nat), xs.length = l.length → (∀ (i : Nat) (f : Field) (x : List AV), l[i]? = some f → xs[i]? = some x → x.length = P.cellsOf f.type) → consec P l o = some e → o + xs.flatten.length = e := by
        intro l
        induction l with
        | nil => intro xs o e hxl _ hc; simp at hxl; subst hxl; simpa [consec] using hc
        | cons f l ih =>
          intro xs o e hxl hx hc
          cases xs with
          | nil => simp at hxl
          | cons x xs =>
            simp only [consec] at hc
            split at hc <;> try (simp at hc; done)
            have := ih xs _ _ (by simpa using hxl) (fun i f x hf hx' => hx (i + 1) f x (by simpa using hf) (by simpa using hx')) hc
            have h0 := hx 0 f x rfl rfl
            simp only [List.flatten_cons, List.length_append]
            omega
      have := key fs.toList xs 0 _ hl (fun i f x hf hx' => by
        have h2 := h.2
        rw [List.all_eq_true] at h2
        exact Shp.length (h2 f (List.mem_of_getElem? hf)) (hx i f x hf hx')) h.1
      omega
    · simp at h

theorem VRels.blocks {E : Env} {z : Nat} : ∀ (es : List (List AV)) (L : List Value), (∀ (i : Nat) (x : List AV), es[i]? = some x → VRels E x ((L.drop (i * z)).take z)) → VRels E es.flatten (L.take (es.length * z))
  | [], L, _ => by simpa using VRels.nil
  | x :: es, L, h => by
    have h0 := h 0 x rfl
    simp only [Nat.zero_mul, List.drop_zero] at h0
    have ih := VRels.blocks (z := z) es (L.drop z) fun i y hy => by
      have := h (i + 1) y (by simpa using hy)
      rw [List.drop_drop]
      have e : z + i * z = (i + 1) * z := by rw [Nat.add_mul]; omega
      rw [e]; exact this
    have e : L.take ((x :: es).length * z) = L.take z ++ (L.drop z).take (es.length * z) := by
      rw [← List.take_add]
      congr 1
      simp only [List.length_cons, Nat.add_mul]; omega
    rw [e, List.flatten_cons]
    exact h0.append ih

theorem consec_le {P : Program} : ∀ {l : List Field} {o e : Nat}, consec P l o = some e → o ≤ e
  | [], o, e, h => by simp [consec] at h; omega
  | f :: l, o, e, h => by
    simp only [consec] at h
    split at h <;> try (simp at h; done)
    have := consec_le h
    omega
theorem VRels.fields {P : Program} {E : Env} {cs : List Value} : ∀ (l : List Field) (xs : List (List AV)) (o e : Nat), consec P l o = some e → xs.length = l.length → (∀ (i : Nat) (f : Field) (x : List AV), l[i]? = some f → xs[i]? = some x → VRels E x ((cs.drop f.offset).take (P.cellsOf f.type))) → VRels E xs.flatten ((cs.drop o).take (e - o))
  | [], xs, o, e, hc, hl, _ => by
    simp at hl; subst hl
    simp [consec] at hc; subst hc
    simpa using VRels.nil
  | f :: l, [], o, e, _, hl, _ => by simp at hl
  | f :: l, x :: xs, o, e, hc, hl, h => by
    simp only [consec] at hc
    split at hc <;> try (simp at hc; done)
    rename_i ho
    have hle := consec_le hc
    have h0 := h 0 f x rfl rfl
    rw [ho] at h0
    have ih := VRels.fields l xs _ e hc (by simpa using hl) fun i f x hf hx => h (i + 1) f x (by simpa using hf) (by simpa using hx)
    have e1 : (cs.drop o).take (e - o) = (cs.drop o).take (P.cellsOf f.type) ++ (cs.drop (o + P.cellsOf f.type)).take (e - (o + P.cellsOf f.type)) := by
      rw [← List.drop_drop, ← List.take_add]
      congr 1; omega
    rw [e1, List.flatten_cons]
    exact h0.append ih

theorem exists_list {α : Type} {n : Nat} {Q : Nat → α → Prop} (h : ∀ i, i < n → ∃ y, Q i y) : ∃ l : List α, l.length = n ∧ ∀ (i : Nat) (x : α), l[i]? = some x → Q i x := by
  induction n with
  | zero => exact ⟨[], rfl, fun i x h => by simp at h⟩
  | succ n ih =>
    obtain ⟨l, h1, h2⟩ := ih fun i hi => h i (by omega)
    obtain ⟨y, hy⟩ := h n (by omega)
    refine ⟨l ++ [y], by simp [h1], fun i x hx => ?_⟩
    rcases Nat.lt_or_ge i l.length with g | g
    · rw [List.getElem?_append_left g] at hx; exact h2 i x hx
    · rw [List.getElem?_append_right g] at hx
      have : i - l.length = 0 := by
        rcases Nat.eq_zero_or_pos (i - l.length) with e | e
        · exact e
        · rw [List.getElem?_eq_none (by simp; omega)] at hx; simp at hx
      have hin : i = n := by omega
      rw [this] at hx
      simp at hx; subst hx
      rw [hin]; exact hy

section
variable {H : Type} {enc : TypeId × Value → H} {P : Program} {w : World} {base : Nat} {held : Bool}

theorem open_plain : ∀ {n : Nat} {t : TypeId} {fuel : Nat} {cs : List Value} {x : DataW H × List MemPlace}, plainTy P n t = true → DataW.trod enc P w base (fun _ => true) held fuel t cs = some x → ∃ as_, VRels (Env.start w) as_ cs ∧ Shp P n t as_
  | 0, _, _, _, _, h, _ => by simp [plainTy] at h
  | n + 1, t, fuel, cs, x, h, hx => by
    have h0 := h
    unfold plainTy at h
    split at h <;> rename_i hu
    · obtain ⟨b, rfl, _⟩ := DataW.trod_bool hu hx
      exact ⟨[.bool b], .cons (.bool b) .nil, by unfold Shp; rw [hu]; exact ⟨b, rfl⟩⟩
    · obtain ⟨m, rfl, _, hwf⟩ := DataW.trod_int hu hx
      exact ⟨[.int _ m], .cons (.int _ m) .nil, by unfold Shp; rw [hu]; exact ⟨m, rfl, hwf⟩⟩
    · obtain ⟨s, rfl, _, hs⟩ := DataW.trod_string hu hx
      refine ⟨[.str s.data.toList], .cons ?_ .nil, by unfold Shp; rw [hu]; exact ⟨_, rfl, by simpa using hs⟩⟩
      have := VRel.str (E := Env.start w) s.data.toList
      simpa using this
    · rename_i e
      simp only [Bool.and_eq_true, beq_iff_eq, decide_eq_true_eq] at h
      obtain ⟨⟨_, hz⟩, he⟩ := h
      rcases DataW.trod_slice hu hx with ⟨rfl, _⟩ | ⟨a, len, cap, elems, rest, m, _, rfl, _, _, hl, hm, hlen, hel, hsp, _⟩
      · exact ⟨[.nilsl], .cons .nilsl .nil, by unfold Shp; rw [hu]; exact .inl rfl⟩
      · have hq : ∀ i, i < len → ∃ as_ : List AV, ∃ ci, w.cells? base (a.add (i * P.cellsOf e)) (P.cellsOf e) = some ci ∧ VRels (Env.start w) as_ ci ∧ Shp P n e as_ := by
          intro i hi
          have h1 := hel i hi
          rw [List.getElem?_eq_getElem (by omega)] at h1
          cases hc : w.cells? base (a.add (i * P.cellsOf e)) (P.cellsOf e) with
          | none => rw [hc] at h1; simp at h1
          | some ci =>
            rw [hc] at h1
            obtain ⟨as_, h2, h3⟩ := open_plain he h1
            exact ⟨as_, ci, rfl, h2, h3⟩
        obtain ⟨es, hes, hq⟩ := exists_list hq
        have hshp : Shp P (n + 1) t [.vsl es.flatten es.length] := by
          unfold Shp; rw [hu]
          refine .inr ⟨es, rfl, by omega, fun x hx => ?_⟩
          obtain ⟨i, hi⟩ := List.getElem?_of_mem hx
          obtain ⟨_, _, _, h3⟩ := hq i x hi
          exact h3
        refine ⟨_, ?_, hshp⟩
        by_cases hcap : cap = 0
        · have : len = 0 := by omega
          subst hcap; subst this
          have : es = [] := List.eq_nil_of_length_eq_zero hes
          subst this
          exact .cons .vsl0 .nil
        · -- a cell is there, so the address is a plain one
          have hspot : a.spot = none := by
            have key : ∀ ci, w.cells? base (a.add 0) (P.cellsOf e) = some ci → a.spot = none := by
              intro ci hc
              obtain ⟨_, h1, h2⟩ := World.cells?_some hc
              have h3 := h2 0 hz
              rw [List.getElem?_eq_getElem (by omega)] at h3
              have e0 : (a.add 0).add 0 = a := by simp [Addr.add]
              rw [e0] at h3
              unfold World.cell? at h3
              split at h3
              · split at h3
                · simp at h3
                · rename_i hsn; simpa using hsn
              · simp at h3
            by_cases h1 : 0 < len
            · have h2 := hel 0 h1
              rw [List.getElem?_eq_getElem (by omega), Nat.zero_mul] at h2
              cases hc : w.cells? base (a.add 0) (P.cellsOf e) with
              | none => rw [hc] at h2; simp at h2
              | some ci => exact key ci hc
            · have h2 := (hsp rfl).2 0 (by omega)
              have hr := (hsp rfl).1
              have hl0 : len = 0 := by omega
              rw [hl0] at h2
              rw [List.getElem?_eq_getElem (by omega)] at h2
              simp only [Nat.add_zero, Nat.zero_mul] at h2
              cases hc : w.cells? base (a.add 0) (P.cellsOf e) with
              | none => rw [hc] at h2; simp at h2
              | some ci => exact key ci hc
          obtain ⟨B, o, sp⟩ := a
          simp only at hspot
          subst hspot
          refine .cons ?_ .nil
          rw [hes]
          by_cases hl0 : len = 0
          · subst hl0
            have : es = [] := List.eq_nil_of_length_eq_zero hes
            subst this
            exact .vsl InK.nil .nil (Nat.zero_le _)
          · have hadd : ∀ k, (Addr.mk B o none).add k = ⟨B, o + k, none⟩ := fun k => by
              unfold Addr.add
              split
              · rename_i h; subst h; rfl
              · rfl
            -- the block
            obtain ⟨x0, hx0⟩ : ∃ x0, es[0]? = some x0 := ⟨es[0]'(by omega), List.getElem?_eq_getElem (by omega)⟩
            obtain ⟨c0, hc0, _, _⟩ := hq 0 x0 hx0
            obtain ⟨_, hcl0, hce0⟩ := World.cells?_some hc0
            have hce := hce0 0 hz
            rw [List.getElem?_eq_getElem (by omega)] at hce
            have hblk : ∃ c e f, w.heap[B]? = some (.cells c e f) := by
              rw [Nat.zero_mul, hadd] at hce
              unfold World.cell? at hce
              have e0 : (Addr.add ⟨B, o + 0, none⟩ 0).block = B := by simp [Addr.add]
              rw [e0] at hce
              split at hce
              · rename_i c e f hh; exact ⟨c, e, f, hh⟩
              · simp at hce
            obtain ⟨c, ce, cf, hh⟩ := hblk
            have hcell : ∀ k, w.cell? ⟨B, o + k, none⟩ = c[o + k]? := fun k => by
              unfold World.cell?; simp [hh]
            have hb : VRels (Env.start w) es.flatten ((c.toList.drop o).take (es.length * P.cellsOf e)) := VRels.blocks es (c.toList.drop o) fun i x hi => by
              obtain ⟨ci, hci, hv, _⟩ := hq i x hi
              obtain ⟨_, hcl, hcc⟩ := World.cells?_some hci
              have : ci = ((c.toList.drop o).drop (i * P.cellsOf e)).take (P.cellsOf e) := by
                apply List.ext_getElem?
                intro j
                by_cases hj : j < P.cellsOf e
                · rw [← hcc j hj, hadd]
                  have e1 : (Addr.mk B (o + i * P.cellsOf e) none).add j = ⟨B, o + (i * P.cellsOf e + j), none⟩ := by
                    unfold Addr.add
                    split
                    · rename_i h; subst h; rfl
                    · simp [Nat.add_assoc]
                  rw [e1, hcell]
                  simp only [List.getElem?_take, if_pos hj, List.getElem?_drop, Array.getElem?_toList]
                · rw [List.getElem?_eq_none (by omega), List.getElem?_take, if_neg hj]
              rw [← this]; exact hv
            exact .vsl (.inr ⟨c, ce, cf, hh, List.take_prefix _ _⟩) hb hl
    · rename_i fs
      simp only [Bool.and_eq_true, beq_iff_eq] at h
      obtain ⟨hc, hall⟩ := h
      rw [List.all_eq_true] at hall
      obtain ⟨xs, m, _, _, hcl, hxl, hf⟩ := DataW.trod_struct hu hx
      have hq : ∀ i, i < fs.size → ∃ as_ : List AV, ∀ f, fs.toList[i]? = some f → VRels (Env.start w) as_ ((cs.drop f.offset).take (P.cellsOf f.type)) ∧ Shp P n f.type as_ := by
        intro i hi
        have hfi : fs[i]? = some fs[i] := Array.getElem?_eq_getElem hi
        have h1 := hf i _ hfi
        rw [List.getElem?_eq_getElem (by omega)] at h1
        obtain ⟨as_, h2, h3⟩ := open_plain (hall _ (by simp)) h1
        refine ⟨as_, fun f hf' => ?_⟩
        have : fs[i]? = some f := by simpa using hf'
        rw [hfi] at this
        simp only [Option.some.injEq] at this
        subst this
        exact ⟨h2, h3⟩
      obtain ⟨ys, hyl, hq⟩ := exists_list hq
      have hyl' : ys.length = fs.toList.length := by simpa using hyl
      refine ⟨ys.flatten, ?_, ?_⟩
      · have := VRels.fields (P := P) (E := Env.start w) (cs := cs) fs.toList ys 0 _ hc hyl' fun i f x hf hx => (hq i x hx f hf).1
        rw [List.drop_zero, Nat.sub_zero, List.take_of_length_le (by omega)] at this
        exact this
      · unfold Shp; rw [hu]
        exact ⟨ys, rfl, hyl', fun i f x hf hx => (hq i x hx f hf).2⟩
    · simp at h
end
end Go.Abs

/-
  Package-level variables whose data are known: what an address of one leads to.
-/





namespace Go.Abs
open Go Go.ChangeShapes

def dataAll (f : DataW Unit → Option (List AV)) : List (DataW Unit) → Option (List (List AV))
  | [] => some []
  | d :: r => match f d, dataAll f r with
    | some x, some xs => some (x :: xs)
    | _, _ => none
def dataFields (f : TypeId → DataW Unit → Option (List AV)) : List Field → List (DataW Unit) → Option (List (List AV))
  | [], [] => some []
  | fd :: fs, d :: r => match f fd.type d, dataFields f fs r with
    | some x, some xs => some (x :: xs)
    | _, _ => none
  | _, _ => none

/-- The cells that a datum is. 'N' names the one type of a name. -/
def dataAV (P : Program) (N : String → Option TypeId) : Nat → Bool → TypeId → DataW Unit → Option (List AV)
  | 0, _, _, _ => none
  | n + 1, top, t, d => match P.underlying t, d with
    | some .bool, .lit (.bool b) => some [.bool b]
    | some (.int k), .lit (.int k' m) => if k' = k then some [.int k m] else none
    | some .string, .lit (.string l) => some [.str l]
    | some (.pointer _), .nil => some [.nilptr]
    | some (.pointer e), .ptr d => if 0 < P.cellsOf e then (dataAV P N n false e d).map fun as_ => [.vptr as_] else none
    | some (.array len e), .agg ds => if ds.length = len ∧ P.cellsOf t = len * P.cellsOf e then (dataAll (dataAV P N n top e) ds).map List.flatten else none
    | some (.struct fs), .agg ds => if consec P fs.toList 0 = some (P.cellsOf t) then (dataFields (dataAV P N n top) fs.toList ds).map List.flatten else none
    | some (.interface _), .nil => some [.niliface]
    | some (.interface _), .iface name d => if top = true then match N name with
        | some u => match P.underlying u with
          | some (.pointer _) => match dataAV P N n false u d with
            | some [a] => some [.iface u a]
            | _ => none
          | _ => none
        | none => none
      else none
    | _, _ => none

theorem dataAll_spec {f : DataW Unit → Option (List AV)} : ∀ {ds : List (DataW Unit)} {xs : List (List AV)}, dataAll f ds = some xs → xs.length = ds.length ∧ ∀ (i : Nat) (x : List AV), xs[i]? = some x → ∃ d, ds[i]? = some d ∧ f d = some x
  | [], xs, h => by simp [dataAll] at h; subst h; simp
  | d :: r, xs, h => by
    simp only [dataAll] at h
    split at h <;> try (simp at h; done)
    rename_i x ys h1 h2
    simp only [Option.some.injEq] at h; subst h
    obtain ⟨hl, hx⟩ := dataAll_spec h2
    refine ⟨by simp [hl], fun i y hy => ?_⟩
    cases i with
    | zero => simp at hy; subst hy; exact ⟨d, rfl, h1⟩
    | succ i => simpa using hx i y (by simpa using hy)

theorem dataFields_spec {f : TypeId → DataW Unit → Option (List AV)} : ∀ {fs : List Field} {ds : List (DataW Unit)} {xs : List (List AV)}, dataFields f fs ds = some xs → xs.length = fs.length ∧ ds.length = fs.length ∧ ∀ (i : Nat) (fd : Field) (x : List AV), fs[i]? = some fd → xs[i]? = some x → ∃ d, ds[i]? = some d ∧ f fd.type d = some x
  | [], [], xs, h => by simp [dataFields] at h; subst h; simp
  | [], _ :: _, _, h => by simp [dataFields] at h
  | _ :: _, [], _, h => by simp [dataFields] at h
  | fd :: fs, d :: r, xs, h => by
    simp only [dataFields] at h
    split at h <;> try (simp at h; done)
    rename_i x ys h1 h2
    simp only [Option.some.injEq] at h; subst h
    obtain ⟨hl, hd, hx⟩ := dataFields_spec h2
    refine ⟨by simp [hl], by simp [hd], fun i fd' y hf hy => ?_⟩
    cases i with
    | zero => simp at hf hy; subst hf; subst hy; exact ⟨d, rfl, h1⟩
    | succ i => simpa using hx i fd' y (by simpa using hf) (by simpa using hy)

section
variable {P : Program} {w : World} {N : String → Option TypeId} {sp : Nat → Bool}

theorem add_none (B o k : Nat) : (Addr.mk B o none).add k = ⟨B, o + k, none⟩ := by
  unfold Addr.add
  split
  · rename_i h; subst h; rfl
  · rfl

theorem data_open (hN : ∀ name u u', N name = some u → P.typeName? 3 u' = some name → u' = u) : ∀ {n : Nat} {top : Bool} {t : TypeId} {d : DataW Unit} {as_ : List AV} {fuel : Nat} {cs : List Value} {p : List MemPlace},
    dataAV P N n top t d = some as_ → DataW.trod (fun _ => ()) P w 0 sp false fuel t cs = some (d, p) →
    (top = true → ∀ u v, Value.iface u v ∈ cs → Value.okWide P w .any 0 u v) → VRels (Env.start w) as_ cs
  | 0, _, _, _, _, _, _, _, h, _, _ => by simp [dataAV] at h
  | n + 1, top, t, d, as_, fuel, cs, p, h, hx, ok => by
    unfold dataAV at h
    split at h <;> rename_i hu
    · simp only [Option.some.injEq] at h; subst h
      obtain ⟨b, rfl, he⟩ := DataW.trod_bool hu hx
      simp at he; obtain ⟨rfl, rfl⟩ := he
      exact .cons (.bool _) .nil
    · obtain ⟨m, rfl, he, _⟩ := DataW.trod_int hu hx
      simp at he; obtain ⟨⟨rfl, rfl⟩, rfl⟩ := he
      simp at h; subst h
      exact .cons (.int _ _) .nil
    · simp only [Option.some.injEq] at h; subst h
      obtain ⟨s, rfl, he, _⟩ := DataW.trod_string hu hx
      simp at he; obtain ⟨rfl, rfl⟩ := he
      have := VRel.str (E := Env.start w) s.data.toList
      exact .cons (by simpa using this) .nil
    · simp only [Option.some.injEq] at h; subst h
      cases fuel with
      | zero => simp [DataW.trod] at hx
      | succ m =>
        match cs with
        | [] => simp [DataW.trod, hu] at hx
        | _ :: _ :: _ => simp [DataW.trod, hu] at hx
        | [c] =>
          cases c <;> simp [DataW.trod, hu] at hx
          rename_i o
          cases o with
          | none => exact .cons .nilptr .nil
          | some a =>
            simp only [Option.bind_eq_some_iff, Function.comp, Option.map_eq_some_iff] at hx
            obtain ⟨_, _, _, _, hx⟩ := hx
            simp at hx
    · rename_i e d'
      split at h <;> try (simp at h; done)
      rename_i hz
      simp only [Option.map_eq_some_iff] at h
      obtain ⟨xs, h, rfl⟩ := h
      obtain ⟨m, a, cs', q, rfl, hc, h2, rfl⟩ := ptr_of_trod hu hx
      have hv := data_open hN h h2 (by simp)
      obtain ⟨_, hcl, hce⟩ := World.cells?_some hc
      have h0 := hce 0 hz
      rw [List.getElem?_eq_getElem (by omega)] at h0
      have hspot : a.spot = none := by
        unfold World.cell? at h0
        split at h0
        · split at h0
          · simp at h0
          · rename_i hsn
            have : (a.add 0).spot = a.spot := rfl
            rw [this] at hsn
            simpa using hsn
        · simp at h0
      obtain ⟨B, o, s⟩ := a
      simp only at hspot; subst hspot
      have hblk : ∃ c e f, w.heap[B]? = some (.cells c e f) := by
        rw [add_none] at h0
        unfold World.cell? at h0
        simp only at h0
        split at h0
        · rename_i c e f hh; exact ⟨c, e, f, hh⟩
        · simp at h0
      obtain ⟨c, ce, cf, hh⟩ := hblk
      have hcell : ∀ k, w.cell? ⟨B, o + k, none⟩ = c[o + k]? := fun k => by
        unfold World.cell?; simp [hh]
      have he : cs' = (c.toList.drop o).take (P.cellsOf e) := by
        apply List.ext_getElem?
        intro j
        by_cases hj : j < P.cellsOf e
        · rw [← hce j hj, add_none, hcell]
          simp only [List.getElem?_take, if_pos hj, List.getElem?_drop, Array.getElem?_toList]
        · rw [List.getElem?_eq_none (by omega), List.getElem?_take, if_neg hj]
      refine .cons (.vptr (.inr ⟨c, ce, cf, hh, ?_⟩) hv) .nil
      rw [he]
      exact List.take_prefix _ _
    · rename_i len e ds
      split at h <;> try (simp at h; done)
      rename_i hz
      simp only [Option.map_eq_some_iff] at h
      obtain ⟨xs, h, rfl⟩ := h
      obtain ⟨ys, m, _, hd, hcl, hyl, hy⟩ := DataW.trod_array hu hx
      simp only [Prod.mk.injEq, DataW.agg.injEq] at hd
      obtain ⟨rfl, rfl⟩ := hd
      obtain ⟨hxl, hxs⟩ := dataAll_spec h
      have hxl' : xs.length = len := by simpa [hyl] using hxl
      have := VRels.blocks (E := Env.start w) (z := P.cellsOf e) xs cs fun i x hi => by
        obtain ⟨d, hd, hf⟩ := hxs i x hi
        have hlt : i < len := by rw [← hxl']; exact (List.getElem?_eq_some_iff.1 hi).1
        have h3 := hy i hlt
        rw [List.getElem?_eq_getElem (by omega)] at h3
        have hd' : (ys[i]'(by omega)).1 = d := by simpa [List.getElem?_eq_getElem (show i < ys.length by omega)] using hd
        rw [← hd'] at hf
        exact data_open hN hf h3 fun ht u v hm => ok ht u v (List.mem_of_mem_drop (List.mem_of_mem_take hm))
      rw [hxl', List.take_of_length_le (by omega)] at this
      exact this
    · rename_i fs ds
      split at h <;> try (simp at h; done)
      rename_i hz
      simp only [Option.map_eq_some_iff] at h
      obtain ⟨xs, h, rfl⟩ := h
      obtain ⟨ys, m, _, hd, hcl, hyl, hy⟩ := DataW.trod_struct hu hx
      simp only [Prod.mk.injEq, DataW.agg.injEq] at hd
      obtain ⟨rfl, rfl⟩ := hd
      obtain ⟨hxl, _, hxs⟩ := dataFields_spec h
      have := VRels.fields (P := P) (E := Env.start w) (cs := cs) fs.toList xs 0 _ hz hxl fun i f x hf hi => by
        obtain ⟨d, hd, hff⟩ := hxs i f x hf hi
        have hlt : i < ys.length := by
          have := (List.getElem?_eq_some_iff.1 hd).1
          simpa using this
        have h3 := hy i f (by simpa using hf)
        rw [List.getElem?_eq_getElem hlt] at h3
        have hd' : (ys[i]).1 = d := by simpa [List.getElem?_eq_getElem hlt] using hd
        rw [← hd'] at hff
        exact data_open hN hff h3 fun ht u v hm => ok ht u v (List.mem_of_mem_drop (List.mem_of_mem_take hm))
      rw [List.drop_zero, Nat.sub_zero, List.take_of_length_le (by omega)] at this
      exact this
    · simp only [Option.some.injEq] at h; subst h
      cases fuel with
      | zero => simp [DataW.trod] at hx
      | succ m =>
        match cs with
        | [] => simp [DataW.trod, hu] at hx
        | _ :: _ :: _ => simp [DataW.trod, hu] at hx
        | [c] =>
          cases c <;> simp [DataW.trod, hu] at hx
          · split at hx <;> simp at hx
          · exact .cons .niliface .nil
    · rename_i name d'
      split at h <;> try (simp at h; done)
      rename_i htop
      split at h <;> try (simp at h; done)
      rename_i u hnu
      split at h <;> try (simp at h; done)
      rename_i e hpu
      split at h <;> try (simp at h; done)
      rename_i a ha
      simp only [Option.some.injEq] at h; subst h
      obtain ⟨m, u', v, rfl, hname, h2⟩ := iface_of_trod hu hx
      obtain rfl := hN _ _ _ hnu hname
      have hok := ok htop u' v (by simp)
      have hvs := data_open hN ha h2 (by simp)
      have hv' : ∃ c, v = .pointer c := by
        unfold Value.okWide at hok
        simp only [hpu] at hok
        unfold Cell.okWide at hok
        cases v <;> simp [Cell.ok, hpu] at hok
        exact ⟨_, rfl⟩
      obtain ⟨c, rfl⟩ := hv'
      have hcl : (Value.pointer c).cells.toList = [.pointer c] := rfl
      rw [hcl] at hvs
      cases hvs with | cons hv _ => exact .cons (.iface hv) .nil
    · simp at h

/-- A listed variable's cells. -/
def laidAV (P : Program) (N : String → Option TypeId) (n : Nat) (name : String) (d : DataW Unit) : Option (Nat × List AV) :=
  match P.globalNamed name with
  | some g => match (P.globals[g]?).map (·.type) with
    | some t => (dataAV P N n true t d).map fun as_ => (g, as_)
    | none => none
  | none => none

/-- What is known of all the listed variables. -/
def laidTab (P : Program) (N : String → Option TypeId) (n : Nat) : List (String × DataW Unit) → Option (List (Nat × List AV))
  | [] => some []
  | (name, d) :: r => match laidAV P N n name d, laidTab P N n r with
    | some x, some xs => some (x :: xs)
    | _, _ => none

def Gof : List (Nat × List AV) → Nat → Option AV
  | [], _ => none
  | (g, as_) :: r, h => if h = g then some (.vptr as_) else Gof r h

theorem laid_rel (hN : ∀ name u u', N name = some u → P.typeName? 3 u' = some name → u' = u) {n : Nat} : ∀ {L : List (String × DataW Unit)} {T : List (Nat × List AV)} {ps : List MemPlace}, laidTab P N n L = some T → DataW.LaidVars P w L ps →
    (∀ b off, MemPlace.cell b off ∈ ps → ∀ u v, w.cell? ⟨b, off, none⟩ = some (.iface u v) → Value.okWide P w .any 0 u v) → GRel (Env.start w) (Gof T)
  | [], T, ps, h, _, _ => by
    simp [laidTab] at h; subst h
    intro g a ha
    simp [Gof] at ha
  | (name, d) :: r, T, ps, h, hL, hok => by
    simp only [laidTab] at h
    split at h <;> try (simp at h; done)
    rename_i x xs h1 h2
    simp only [Option.some.injEq] at h; subst h
    obtain ⟨g, t, cs, fuel, p, q, hg, ht, hv, hd, hr, rfl⟩ := hL
    simp only [laidAV, hg, ht, Option.map_eq_some_iff] at h1
    obtain ⟨as_, h1, rfl⟩ := h1
    have hrest := laid_rel hN h2 hr fun b off hm => hok b off (by simp [hm])
    intro k a ha
    simp only [Gof] at ha
    split at ha
    · rename_i he; subst he
      simp only [Option.some.injEq] at ha; subst ha
      have hvs := data_open hN h1 hd fun _ u v hm => by
        obtain ⟨i, hi⟩ := List.getElem?_of_mem hm
        refine hok k i ?_ u v ?_
        · simp only [List.mem_append, MemPlace.row, List.mem_map, List.mem_range]
          refine .inl (.inl ⟨i, ?_, by simp⟩)
          have := (List.getElem?_eq_some_iff.1 hi).1
          simpa using this
        · rw [World.var?_cell hg hv i]
          simpa using hi
      have hb : ∃ c e, w.heap[k]? = some (.cells cs c e) := by
        simp only [World.var?, hg, Option.bind_some] at hv
        split at hv <;> simp at hv
        subst hv
        rename_i hh; exact ⟨_, _, hh⟩
      obtain ⟨c, e, hb⟩ := hb
      exact ⟨.vptr (.inr ⟨cs, c, e, hb, by simp⟩) hvs, fun cs' e' => by cases e'; exact ⟨cs, c, e, hb, hvs⟩⟩
    · exact hrest k a ha

/-- The listed variables, as a row says them. -/
theorem laid_met (hN : ∀ name u u', N name = some u → P.typeName? 3 u' = some name → u' = u) {n : Nat} {L : List (String × DataW Unit)} (ht : (laidTab P N n L).isSome = true) (h : laidMet P L w) : GRel (Env.start w) (Gof ((laidTab P N n L).getD [])) := by
  obtain ⟨ps, h1, _, h3⟩ := h
  cases e : laidTab P N n L with
  | none => rw [e] at ht; simp at ht
  | some T => exact laid_rel hN e h1 fun b off hm => (h3 b off hm).2
end
end Go.Abs
