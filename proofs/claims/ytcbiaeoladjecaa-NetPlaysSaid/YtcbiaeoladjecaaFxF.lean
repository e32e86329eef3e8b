/-
  A quick evaluator for closed calls, sixth part: an operation's run, and that it is right.
-/
import Derived.Test.YtcbiaeoladjecaaFxE
namespace Go.Abs
open Go

noncomputable def effK (H : FH) (e : AEff) (k : FH → Bool) : Bool := match e with
  | .same => k H
  | .put i (.cells cs) => ifK (Nat.blt i 1048576) (H.putK i (.lst cs) k) false
  | .new (.cells cs) => H.newK (.lst cs) (fun _ H => k H) false
  | .move i (.cells cs) => H.moveK i (.lst cs) (fun _ H => k H) false
theorem effK_inv {H : FH} {e : AEff} {k : FH → Bool} (h : effK H e k = true) : ∃ H', H'.abs = H.abs.eff e ∧ k H' = true := by
  unfold effK at h
  split at h
  · exact ⟨H, rfl, h⟩
  · obtain ⟨h1, h⟩ := ifK_inv h
    exact FH.putK_inv (Nat.le_of_ble_eq_true h1) h
  · exact FH.newK_inv h
  · exact FH.moveK_inv h

noncomputable def fnK (fn : Fn) (k : FuncId → Bool) : Bool := match fn with
  | .func f => k f
  | _ => false
theorem fnK_inv {fn : Fn} {k : FuncId → Bool} (h : fnK fn k = true) : ∃ f, fn = .func f ∧ k f = true := by
  unfold fnK at h
  split at h
  · exact ⟨_, rfl, h⟩
  · simp at h

abbrev Om := FuncId → List AV → FH → (AV → FH → Bool) → Bool

noncomputable def loadK (base : Nat) (agg : Bool) (n : Nat) (a : AV) (H : FH) (k : AV → FH → Bool) : Bool :=
  a.onPtr false
    (fun i off => ifK (Nat.blt i base) (H.atK i (fun b => ifK agg (b.cutK off n (fun l => k (.agg l) H) false) (b.cellK off (fun v => k v H) false)) false) false)
    (fun cs => ifK agg (takeK cs n (fun l => k (.agg l) H) false) (nthK cs 0 (fun v => k v H) false))
noncomputable def b2sK (base : Nat) (a : AV) (H : FH) (k : AV → FH → Bool) : Bool :=
  a.onSl false (k (.str []) H)
    (fun i off _ len _ _ => ifK (Nat.blt i base) (H.atK i (fun b => b.cutK off len (fun l => bytesK l fun bs => k (.str bs) H) false) false) false)
    (fun cs len => takeK cs len (fun l => bytesK l fun bs => k (.str bs) H) false)
noncomputable def storeK (n : Nat) (p a : AV) (H : FH) (k : AV → FH → Bool) : Bool :=
  p.onPtr false
    (fun i off => H.atK i (fun b => ifK a.sc (ifK (Nat.beq n 1) (b.wr1 off a (fun b => H.putK i b fun H => k (.tuple []) H) false) false)
      (a.onAgg false fun cs => ifK (allB AV.sc cs) (ifK (Nat.beq (lenN cs) n) (b.wrs off cs (fun b => H.putK i b fun H => k (.tuple []) H) false) false) false)) false)
    (fun _ => false)
noncomputable def callK (ω : Om) (f : AV) (args : List FX) (T : ET) (H : FH) (k : AV → FH → Bool) : Bool :=
  f.onFunc false fun fn a c => fnK fn fun fid => fxsK args T fun as => appK as c fun r => appK a r fun r => ω fid r H k

noncomputable def FOp.run (ω : Om) (P : Program) (G : Nat → Option AV) (o : Oper) (base : Nat) (f : FOp) (T : ET) (H : FH) (k : AV → FH → Bool) : Bool :=
  FOp.rec (motive := fun _ => ET → FH → (AV → FH → Bool) → Bool)
    (fun f T H k => f.run P G o T fun v => k v H)
    (fun agg n x T H k => loadK base agg n (x.get T) H k)
    (fun x T H k => b2sK base (x.get T) H k)
    (fun b _ H k => H.newK b (fun i H => k (.ptr i 0) H) false)
    (fun x T H k => H.newK (.lst (x.get T).cs) (fun i H => k (.ptr i 0) H) false)
    (fun n x v T H k => storeK n (x.get T) (v.get T) H k)
    (fun size bytes x y T H k => appendK size bytes (x.get T) (y.get T) H k)
    (fun f args T H k => callK ω (f.get T) args T H k)
    (fun zc x T H k => clrK zc (x.get T) H k)
    (fun z x y T H k => cpyK z (x.get T) (y.get T) H k)
    (fun T H k => optK (aalloc P (aval G T.fn) o) fun x => H.newK (.lst x.1) (fun i H => k (x.2 i) H) false)
    (fun T H k => optK (aeff P (aval G T.fn) H.abs.get H.next o) fun x => effK H x.2 (k x.1))
    (fun _ _ _ => false) f T H k

def FOp.isE : FOp → Bool
  | .store .. | .app .. | .call .. | .clr .. | .cpy .. | .gene => true
  | _ => false
def FOp.isA : FOp → Bool
  | .zero .. | .box .. | .gena => true
  | _ => false
def FOp.isR : FOp → Bool
  | .load .. | .b2s .. => true
  | _ => false

def objOf (cs : List AV) : FObj := if cs.length ≤ 24 then .lst cs else match cs with
  | [] => .lst []
  | a :: r => if r.all (fun b => b.beq a) then .arr (r.length + 1) (E32.all (E32.all (E32.all a))) else .lst (a :: r)
theorem objOf_list (cs : List AV) : (objOf cs).list = cs := by
  unfold objOf
  split
  · rfl
  · split
    · rfl
    · rename_i a r _
      split
      · rename_i h
        simp only [FObj.list, R3.get_all]
        apply List.ext_getElem?
        intro j
        by_cases hj : j < r.length + 1
        · rw [List.getElem?_map, List.getElem?_range hj, Option.map_some]
          cases j with
          | zero => rfl
          | succ j =>
            rw [List.getElem?_cons_succ, List.getElem?_eq_getElem (by omega)]
            rw [List.all_eq_true] at h
            rw [AV.beq_eq _ _ (h r[j] (List.getElem_mem _))]
        · rw [List.getElem?_eq_none (by simp; omega), List.getElem?_eq_none (by simp; omega)]
      · rfl

/-- An operation, made ready. -/
def fcop (P : Program) (G : Nat → Option AV) (o : Oper) : FOp := match o.op with
  | .load t x => match fx G x, aagg P t, asize P t with
    | some x, some a, some n => .load a n x
    | _, _, _ => .bad
  | .convert s d x => match P.underlying s, P.underlying d with
    | some (.slice e), some .string => match P.underlying e, fx G x with
      | some (.int .u8), some x => .b2s x
      | _, _ => .bad
    | some .string, some (.slice _) => .gena
    | some (.slice _), some (.slice _) => .gene
    | _, _ => .pure (fpure P G o)
  | .alloc t => match azero P t with
    | some z => .zero (objOf z.cells)
    | none => .bad
  | .box _ x => match fx G x with
    | some x => .box x
    | none => .bad
  | .buildSlice .. => .gena
  | .makeSlice .. => .gena
  | .store t x v => match fx G x, fx G v, asize P t with
    | some x, some v, some n => .store n x v
    | _, _, _ => .bad
  | .call c => match c.callee with
    | .builtin .append => match c.argTypes.toList, c.args.toList with
      | [t, u], [x, y] => match P.underlying t, P.underlying u with
        | some (.slice e), some (.slice _) => match P.info? e, azero P e, fx G x, fx G y with
          | some info, some z, some x, some y => if z.cells.length = info.size then .app info.size info.bytes x y else .gene
          | _, _, _, _ => .gene
        | _, _ => .gene
      | _, _ => .gene
    | .builtin .copy => match c.argTypes.toList, c.args.toList with
      | [t, u], [x, y] => match P.underlying t, P.underlying u with
        | some (.slice e), some (.slice _) => match asize P e, fx G x, fx G y with
          | some z, some x, some y => .cpy z x y
          | _, _, _ => .gene
        | _, _ => .gene
      | _, _ => .gene
    | .builtin .clear => match c.argTypes.toList, c.args.toList with
      | [t], [x] => match P.underlying t with
        | some (.slice e) => match azero P e, fx G x with
          | some z, some x => .clr z.cells x
          | _, _ => .gene
        | _ => .gene
      | _, _ => .gene
    | .builtin _ => .pure (fpure P G o)
    | .value f => match fx G f, fxs G c.args.toList with
      | some f, some as => .call f as
      | _, _ => .bad
    | _ => .bad
  | _ => .pure (fpure P G o)

def GoodK (P : Program) (G : Nat → Option AV) (ω : Om) : Prop := ∀ f args H k, ω f args H k = true → ∃ v H', Does P G f args H.abs (fun r h => r = v ∧ h = H'.abs) ∧ H.next ≤ H'.next ∧ k v H' = true

/-- What an operation's run comes to. -/
def Comes (P : Program) (G : Nat → Option AV) (ops : Array Oper) (o : Oper) (f : FOp) (base : Nat) (T : ET) (H : FH) (k : AV → FH → Bool) : Prop :=
  ∃ v kd H', Step P G ops o T.fn H.abs v kd H'.abs ∧ H.next ≤ H'.next ∧ kd.isEff = f.isE ∧ (kd.isAlloc = true → f.isA = true) ∧
    kd.isRead = f.isR ∧ (kd.isRead = true → ∀ A : Nat → Option AObj, (∀ i, i < base → A i = H.abs.get i) → aread P (aval G T.fn) A o = some v) ∧ k v H' = true

section
variable {ω : Om} {P : Program} {G : Nat → Option AV} {ops : Array Oper} {o : Oper} {T : ET} {H : FH} {base : Nat} {k : AV → FH → Bool} {f : FOp}

theorem comes_pure (hw : awanted ops T.fn o = true) (hE : f.isE = false) (hRd : f.isR = false) (h : GoodP P G o T fun v => k v H) : Comes P G ops o f base T H k := by
  obtain ⟨v, h1, h2⟩ := h
  exact ⟨v, .idle, H, ⟨.inr ⟨hw, h1⟩, rfl⟩, Nat.le_refl _, hE.symm, fun h => by simp [Kind.isAlloc] at h, hRd.symm, fun h => by simp [Kind.isRead] at h, h2⟩
theorem comes_read (hw : awanted ops T.fn o = true) (hE : f.isE = false) (hf : f.isR = true) {v : AV} (h : ∀ A : Nat → Option AObj, (∀ i, i < base → A i = H.abs.get i) → aread P (aval G T.fn) A o = some v) (hk : k v H = true) : Comes P G ops o f base T H k :=
  ⟨v, .read, H, ⟨hw, h _ fun _ _ => rfl, rfl⟩, Nat.le_refl _, hE.symm, fun h => by simp [Kind.isAlloc] at h, hf.symm, fun _ => h, hk⟩
theorem comes_alloc (hw : awanted ops T.fn o = true) (hE : f.isE = false) (hRd : f.isR = false) (hf : f.isA = true) {b : FObj} {cs : List AV} {g : Nat → AV} (ha : aalloc P (aval G T.fn) o = some (cs, g)) (hb : b.list = cs) (h : H.newK b (fun i H => k (g i) H) false = true) : Comes P G ops o f base T H k := by
  obtain ⟨H', h1, h2⟩ := FH.newK_inv h
  have h1 : H'.abs = H.abs.push (.cells cs) := by rw [h1]; unfold FObj.abs; rw [hb]
  refine ⟨g H.next, .alloc cs, H', ⟨hw, g, ha, rfl, h1⟩, ?_, hE.symm, fun _ => hf, hRd.symm, fun h => by simp [Kind.isRead] at h, h2⟩
  have : H'.abs.next = H.next + 1 := by rw [h1]; rfl
  have e : H'.abs.next = H'.next := rfl
  omega
theorem comes_eff (hw : awanted ops T.fn o = true) (hf : f.isE = true) (hRd : f.isR = false) {v : AV} {e : AEff} {H' : FH} (he : aeff P (aval G T.fn) H.abs.get H.abs.next o = some (v, e)) (hH : H'.abs = H.abs.eff e) (hk : k v H' = true) : Comes P G ops o f base T H k := by
  refine ⟨v, .eff, H', ⟨hw, .inl ⟨e, he, hH⟩⟩, ?_, hf.symm, fun h => by simp [Kind.isAlloc] at h, hRd.symm, fun h => by simp [Kind.isRead] at h, hk⟩
  have h1 := eff_next H.abs e
  rw [← hH] at h1
  exact h1

theorem splice_one (cs : List AV) (o : Nat) (a : AV) (h : o < cs.length) : splice cs o [a] = cs.set o a := by
  rw [splice_cons cs o a [] h, splice_nil]

theorem fcop_sound (hω : GoodK P G ω) (hw : awanted ops T.fn o = true) (h : (fcop P G o).run ω P G o base T H k = true) : Comes P G ops o (fcop P G o) base T H k := by
  have pureCase : ∀ f, f = FOp.pure (fpure P G o) → f.run ω P G o base T H k = true → Comes P G ops o f base T H k := by
    rintro _ rfl h
    exact comes_pure hw rfl rfl (fpure_sound o h)
  have geneCase : ∀ f, f = FOp.gene → f.run ω P G o base T H k = true → Comes P G ops o f base T H k := by
    rintro _ rfl h
    obtain ⟨⟨v, e⟩, h1, h2⟩ := optK_inv (show optK (aeff P (aval G T.fn) H.abs.get H.next o) (fun x => effK H x.2 (k x.1)) = true from h)
    obtain ⟨H', h3, h4⟩ := effK_inv h2
    exact comes_eff hw rfl rfl h1 h3 h4
  have genaCase : ∀ f, f = FOp.gena → f.run ω P G o base T H k = true → Comes P G ops o f base T H k := by
    rintro _ rfl h
    obtain ⟨⟨cs, g⟩, h1, h2⟩ := optK_inv (show optK (aalloc P (aval G T.fn) o) (fun x => H.newK (.lst x.1) (fun i H => k (x.2 i) H) false) = true from h)
    exact comes_alloc hw rfl rfl rfl h1 rfl h2
  have badCase : ∀ f, f = FOp.bad → f.run ω P G o base T H k = true → Comes P G ops o f base T H k := by
    rintro _ rfl h
    have h : false = true := h
    simp at h
  generalize hf : fcop P G o = f at h ⊢
  unfold fcop at hf
  split at hf
  · rename_i t x ho
    split at hf
    · rename_i x' a n hx ha hn
      subst hf
      have h : loadK base a n (x'.get T) H k = true := h
      rcases AV.onPtr_inv h with ⟨i, off, hv, h⟩ | ⟨cs, hv, h⟩
      · obtain ⟨h1, h⟩ := ifK_inv h
        have h1 : i < base := Nat.le_of_ble_eq_true h1
        obtain ⟨b, hb, h, _⟩ := FH.atK_inv h
        have hb : H.abs.get i = some (.cells b.list) := hb
        cases a with
        | true =>
          obtain ⟨h2, h3⟩ := FObj.cutK_inv (show b.cutK off n (fun l => k (.agg l) H) false = true from h)
          refine comes_read hw rfl rfl (fun A hA => ?_) h3
          simp only [aread, ho, fx_eq hx, hv, aat, hA i h1, hb]
          rw [if_pos (by omega)]
          simp only [acut, ha, hn]
          rw [if_pos (by simp; omega)]
        | false =>
          obtain ⟨v, h2, h3⟩ := FObj.cellK_inv (show b.cellK off (fun v => k v H) false = true from h)
          refine comes_read hw rfl rfl (fun A hA => ?_) h3
          simp only [aread, ho, fx_eq hx, hv, aat, hA i h1, hb]
          have hlt : off < b.list.length := by
            rcases Nat.lt_or_ge off b.list.length with g | g
            · exact g
            · rw [List.getElem?_eq_none g] at h2; simp at h2
          rw [if_pos (by omega)]
          simp only [acut, ha, hn]
          rw [List.getElem?_drop, Nat.add_zero]; exact h2
      · cases a with
        | true =>
          have h : takeK cs n (fun l => k (.agg l) H) false = true := h
          rw [takeK_eq] at h
          split at h <;> try (simp at h; done)
          rename_i h2
          refine comes_read hw rfl rfl (fun A hA => ?_) h
          simp only [aread, ho, fx_eq hx, hv, aat, acut, ha, hn, if_pos h2]
        | false =>
          have h : nthK cs 0 (fun v => k v H) false = true := h
          rw [nthK_eq] at h
          split at h <;> try (simp at h; done)
          rename_i v hc
          refine comes_read hw rfl rfl (fun A hA => ?_) h
          simp only [aread, ho, fx_eq hx, hv, aat, acut, ha, hn, hc]
    · exact badCase _ hf.symm h
  · rename_i s d x ho
    split at hf
    · rename_i e hs hd
      split at hf
      · rename_i x' he hx
        subst hf
        have h : b2sK base (x'.get T) H k = true := h
        rcases AV.onSl_inv h with ⟨hv, h⟩ | ⟨i, off, z, len, cap, opn, hv, h⟩ | ⟨cs, len, hv, h⟩
        · refine comes_read hw rfl rfl (fun A hA => ?_) h
          simp only [aread, ho, hs, hd, he, fx_eq hx, hv]
        · obtain ⟨h1, h⟩ := ifK_inv h
          have h1 : i < base := Nat.le_of_ble_eq_true h1
          obtain ⟨b, hb, h, _⟩ := FH.atK_inv h
          have hb : H.abs.get i = some (.cells b.list) := hb
          obtain ⟨h2, h⟩ := FObj.cutK_inv h
          obtain ⟨bs, h3, h⟩ := bytesK_inv h
          refine comes_read hw rfl rfl (fun A hA => ?_) h
          simp only [aread, ho, hs, hd, he, fx_eq hx, hv, afirst, hA i h1, hb, Nat.mul_one, if_pos h2, h3, Option.map_some]
        · rw [takeK_eq] at h
          split at h <;> try (simp at h; done)
          rename_i h2
          obtain ⟨bs, h3, h⟩ := bytesK_inv h
          refine comes_read hw rfl rfl (fun A hA => ?_) h
          simp only [aread, ho, hs, hd, he, fx_eq hx, hv, afirst, Nat.mul_one, if_pos h2, h3, Option.map_some]
      · exact badCase _ hf.symm h
    · exact genaCase _ hf.symm h
    · exact geneCase _ hf.symm h
    · exact pureCase _ hf.symm h
  · rename_i t ho
    split at hf
    · rename_i z hz
      subst hf
      exact comes_alloc (b := objOf z.cells) (g := fun i => .ptr i 0) hw rfl rfl rfl (by simp only [aalloc, ho, hz]) (objOf_list _) h
    · exact badCase _ hf.symm h
  · rename_i t x ho
    split at hf
    · rename_i x' hx
      subst hf
      exact comes_alloc (b := .lst (x'.get T).cs) (g := fun i => .ptr i 0) (cs := (x'.get T).cells) hw rfl rfl rfl (by simp only [aalloc, ho, fx_eq hx]) (AV.cs_eq _) h
    · exact badCase _ hf.symm h
  · exact genaCase _ hf.symm h
  · exact genaCase _ hf.symm h
  · rename_i t x v ho
    split at hf
    · rename_i x' v' n hx hv hn
      subst hf
      have h : storeK n (x'.get T) (v'.get T) H k = true := h
      rcases AV.onPtr_inv h with ⟨i, off, hp, h⟩ | ⟨cs, hp, h⟩
      · obtain ⟨b, hb, h, hi⟩ := FH.atK_inv h
        have hb : H.abs.get i = some (.cells b.list) := hb
        cases hsc : (v'.get T).sc with
        | true =>
          rw [hsc, ifK_true] at h
          obtain ⟨h1, h⟩ := ifK_inv h
          have h1 : n = 1 := by simpa using h1
          obtain ⟨h2, b', h3, h⟩ := FObj.wr1_inv h
          obtain ⟨H', h4, h⟩ := FH.putK_inv hi h
          have hcl : (v'.get T).cells = [v'.get T] := by
            rw [AV.sc_eq] at hsc
            cases hvv : v'.get T <;> rw [hvv] at hsc <;> first | rfl | simp [AV.scalar] at hsc
          refine comes_eff (v := .tuple []) (e := .put i (.cells (b.list.set off (v'.get T)))) (H' := H') hw rfl rfl ?_ ?_ h
          · simp only [aeff, ho, fx_eq hx, hp, fx_eq hv, hb, hn, hcl]
            rw [AV.sc_eq] at hsc
            rw [if_pos ⟨by simp [h1], by simp [hsc], by omega⟩, splice_one _ _ _ h2]
          · rw [h4]; unfold FObj.abs; rw [h3]; rfl
        | false =>
          rw [hsc, ifK_false] at h
          obtain ⟨cs, ha, h⟩ := AV.onAgg_inv h
          obtain ⟨h1, h⟩ := ifK_inv h
          obtain ⟨h2, h⟩ := ifK_inv h
          rw [lenN_eq] at h2
          have h2 : cs.length = n := by simpa using h2
          obtain ⟨h3, b', h4, h⟩ := FObj.wrs_inv h
          obtain ⟨H', h5, h⟩ := FH.putK_inv hi h
          refine comes_eff (v := .tuple []) (e := .put i (.cells (splice b.list off cs))) (H' := H') hw rfl rfl ?_ ?_ h
          · have hcl : (v'.get T).cells = cs := by rw [ha]; rfl
            simp only [aeff, ho, fx_eq hx, hp, fx_eq hv, hb, hn, hcl]
            rw [if_pos ⟨h2, allB_sc h1, by omega⟩]
          · rw [h5]; unfold FObj.abs; rw [h4]; rfl
      · simp at h
    · exact badCase _ hf.symm h
  · rename_i c ho
    split at hf
    · rename_i hc
      split at hf
      · rename_i t u x y ht hx
        split at hf
        · rename_i e e' hut huu
          split at hf
          · rename_i info z x' y' hi hz hx' hy'
            split at hf
            · rename_i hzl
              subst hf
              have h : appendK info.size info.bytes (x'.get T) (y'.get T) H k = true := h
              obtain ⟨v, eff, H', h1, h2, h3⟩ := appendK_inv hut huu rfl hi hz hzl rfl rfl h
              refine comes_eff hw rfl rfl ?_ h2 h3
              simp only [aeff, ho, hc, ht, hx, fx_eq hx', fx_eq hy', h1]
            · exact geneCase _ hf.symm h
          · exact geneCase _ hf.symm h
        · exact geneCase _ hf.symm h
      · exact geneCase _ hf.symm h
    · rename_i hc
      split at hf
      · rename_i t u x y ht hx
        split at hf
        · rename_i e e' hut huu
          split at hf
          · rename_i z x' y' hz hx' hy'
            subst hf
            have h : cpyK z (x'.get T) (y'.get T) H k = true := h
            obtain ⟨v, eff, H', h1, h2, h3⟩ := cpyK_inv hut hz h
            refine comes_eff hw rfl rfl ?_ h2 h3
            simp only [aeff, ho, hc, ht, hx, fx_eq hx', fx_eq hy', h1]
          · exact geneCase _ hf.symm h
        · exact geneCase _ hf.symm h
      · exact geneCase _ hf.symm h
    · rename_i hc
      split at hf
      · rename_i t x ht hx
        split at hf
        · rename_i e hut
          split at hf
          · rename_i z x' hz hx'
            subst hf
            have h : clrK z.cells (x'.get T) H k = true := h
            obtain ⟨v, eff, H', h1, h2, h3⟩ := clrK_inv hut hz h
            refine comes_eff hw rfl rfl ?_ h2 h3
            simp only [aeff, ho, hc, ht, hx, fx_eq hx', h1]
          · exact geneCase _ hf.symm h
        · exact geneCase _ hf.symm h
      · exact geneCase _ hf.symm h
    · exact pureCase _ hf.symm h
    · rename_i fo hc
      split at hf
      · rename_i f' as hf' has
        subst hf
        have h : callK ω (f'.get T) as T H k = true := h
        obtain ⟨fn, a, c', hv, h⟩ := AV.onFunc_inv h
        obtain ⟨fid, hfn, h'⟩ := fnK_inv h
        subst hfn
        rw [fxsK_eq, appK_eq, appK_eq] at h'
        obtain ⟨v, H', h1, h2, h3⟩ := hω _ _ _ _ h'
        refine ⟨v, .eff, H', ⟨hw, .inr ⟨fid, a ++ as.map (·.get T) ++ c', ?_, ?_⟩⟩, h2, rfl, fun h => by simp [Kind.isAlloc] at h, rfl, fun h => by simp [Kind.isRead] at h, h3⟩
        · simp only [acallee, ho, hc, fx_eq hf', hv, fxs_eq has]
        · rw [List.append_assoc]; exact h1
      · exact badCase _ hf.symm h
    · exact badCase _ hf.symm h
  · exact pureCase _ hf.symm h
end
end Go.Abs
