/-
  Own library of this claim, part 3: texts one behind the other.
-/
import Derived.Lib.Bytealg
import Derived.Laws.Externs
import Derived.Below
import Derived.Laws.Entries
import Derived.Test.YtekbjlihciedjaaGreatDoorRows
import Derived.Lib.Walk
import Derived.Lib.UnsafeStr
import Derived.Lib.MakeNoZero
import Derived.Lib.Builder
import Derived.Laws.IdiomCopy
import Derived.Lib.BufferWrite
import Derived.Lib.Hide
import Derived.Laws.MakeOwn
import Derived.OwnWalk
import Derived.WalkKit
import Derived.ProofKit
import Derived.IntWalk
import Derived.Test.YtekbjlihciedjaaGreatDoorProg
import Derived.KernelRfl
import Derived.Test.YtekbjlihciedjaaGreatDoorLibRepRefusesB
set_option maxRecDepth 100000
set_option maxHeartbeats 8000000
set_option linter.unusedVariables false
set_option linter.unusedSimpArgs false
namespace Go.Abs
open Go
noncomputable def effK (H : FH) (e : AEff) (k : FH -> Bool) : Bool := match e with
 | .same => k H
 | .put i (.cells cs) => ifK (Nat.blt i 1048576) (H.putK i (.lst cs) k) false
 | .new (.cells cs) => H.newK (.lst cs) (fun _ H => k H) false
 | .move i (.cells cs) => H.moveK i (.lst cs) (fun _ H => k H) false
 | .new (.row t cs) => H.newS (.row t cs) (fun _ H => k H) false
 | .put i (.map es) => ifK (Nat.blt i 1048576) (H.putS i (.map es) k) false
 | _ => false
theorem effK_inv {H : FH} {e : AEff} {k : FH -> Bool} (h : effK H e k = true) : ∃ H', H'.abs = H.abs.eff e /\ k H' = true := by
 unfold effK at h
 split at h
 · exact ⟨H, rfl, h⟩
 · obtain ⟨h1, h⟩ := zah h
   exact FH.putK_inv (Nat.le_of_ble_eq_true h1) h
 · exact FH.newK_inv h
 · exact FH.moveK_inv h
 · exact FH.newS_inv h
 · obtain ⟨h1, h⟩ := zah h
   exact FH.putS_inv (x := .map _) (Nat.le_of_ble_eq_true h1) h
 · simp at h
noncomputable def fnK (fn : Fn) (k : FuncId -> Bool) : Bool := match fn with
 | .func f => k f
 | _ => false
theorem fnK_inv {fn : Fn} {k : FuncId -> Bool} (h : fnK fn k = true) : ∃ f, fn = .func f /\ k f = true := by
 unfold fnK at h
 split at h
 · exact ⟨_, rfl, h⟩
 · simp at h
abbrev Om := FuncId -> List AV -> FH -> (AV -> FH -> Bool) -> Bool
noncomputable def loadK (base : Nat) (agg : Bool) (n : Nat) (a : AV) (H : FH) (k : AV -> FH -> Bool) : Bool :=
 a.onPtr false
  (fun i off => ifK (Nat.blt i base) (H.atK i (fun b => ifK agg (b.cutK off n (fun l => k (.agg l) H) false) (b.cellK off (fun v => k v H) false)) false) false)
  (fun cs => ifK agg (takeK cs n (fun l => k (.agg l) H) false) (nthK cs 0 (fun v => k v H) false))
noncomputable def b2sK (base : Nat) (a : AV) (H : FH) (k : AV -> FH -> Bool) : Bool :=
 a.onSl false (k (.str []) H)
  (fun i off _ len _ _ => ifK (Nat.blt i base) (H.atK i (fun b => b.cutK off len (fun l => bytesK l fun bs => k (.str bs) H) false) false) false)
  (fun cs len => takeK cs len (fun l => bytesK l fun bs => k (.str bs) H) false)
noncomputable def storeK (n : Nat) (p a : AV) (H : FH) (k : AV -> FH -> Bool) : Bool :=
 p.onPtr false
  (fun i off => H.atK i (fun b => ifK a.sc (ifK (Nat.beq n 1) (b.wr1 off a (fun b => H.putK i b fun H => k (.tuple []) H) false) false)
    (a.onAgg false fun cs => ifK (allB AV.sc cs) (ifK (Nat.beq (lenN cs) n) (b.wrs off cs (fun b => H.putK i b fun H => k (.tuple []) H) false) false) false)) false)
  (fun _ => false)
noncomputable def callK (ω : Om) (f : AV) (args : List FX) (T : ET) (H : FH) (k : AV -> FH -> Bool) : Bool :=
 f.onFunc false fun fn a c => fnK fn fun fid => fxsK args T fun as_ => appK as_ c fun r => appK a r fun r => ω fid r H k
noncomputable def FOp.run (ω : Om) (P : Program) (G : Nat -> Option AV) (o : Oper) (base : Nat) (f : FOp) (T : ET) (H : FH) (k : AV -> FH -> Bool) : Bool :=
 FOp.rec (motive := fun _ => ET -> FH -> (AV -> FH -> Bool) -> Bool)
  (fun f T H k => f.run P G o T fun v => k v H)
  (fun agg n x T H k => loadK base agg n (x.get T) H k)
  (fun x T H k => b2sK base (x.get T) H k)
  (fun b _ H k => H.newK b (fun i H => k (.ptr i 0) H) false)
  (fun x T H k => H.newK (.lst (x.get T).cs) (fun i H => k (.ptr i 0) H) false)
  (fun n x v T H k => storeK n (x.get T) (v.get T) H k)
  (fun size bytes x y T H k => appendK size bytes (x.get T) (y.get T) H k)
  (fun f args T H k => callK ω (f.get T) args T H k)
  (fun zc x T H k => clrK zc (x.get T) H k)
  (fun z x y T H k => cpyK z (x.get T) (y.get T) H k)
  (fun d z ok x y T H k => lookK base d z ok (x.get T) (y.get T) H k)
  (fun d m y x T H k => mputK d (m.get T) (y.get T) (x.get T) H k)
  (fun x T H k => mlenK base (x.get T) H k)
  (fun T H k => optK (aalloc P (aval G T.fn) o) fun x => H.newX x.1 (fun i H => k (x.2 i) H) false)
  (fun T H k => optK (aeff P (aval G T.fn) H.abs.get H.next o) fun x => effK H x.2 (k x.1))
  (fun _ _ _ => false)
  (fun T H k => optK (afrz P (aval G T.fn) o) fun v => k v H) f T H k
def FOp.isE : FOp -> Bool
 | .store .. | .app .. | .call .. | .clr .. | .cpy .. | .gene | .mput .. => true
 | _ => false
def FOp.isA : FOp -> Bool
 | .zero .. | .box .. | .gena => true
 | _ => false
def FOp.isR : FOp -> Bool
 | .load .. | .b2s .. | .look .. | .mlen .. => true
 | _ => false
def objOf (cs : List AV) : FObj := if cs.length <= 24 then .lst cs else match cs with
 | [] => .lst []
 | a :: r => if r.all (fun b => b.beq a) then .arr (r.length + 1) (E32.all (E32.all (E32.all a))) else .lst (a :: r)
theorem objOf_list (cs : List AV) : (objOf cs).list = cs := by
 unfold objOf
 split
 · rfl
 · split
   · rfl
   · rename_i a r _
     split
     · rename_i h
       simp only [FObj.list, R3.get_all]
       apply List.ext_getElem?
       intro j
       by_cases hj : j < r.length + 1
       · rw [List.getElem?_map, List.getElem?_range hj, Option.map_some]
         cases j with
         | zero => rfl
         | succ j =>
           rw [List.getElem?_cons_succ, List.getElem?_eq_getElem (by omega)]
           rw [List.all_eq_true] at h
           rw [AV.beq_eq _ _ (h r[j] (List.getElem_mem _))]
       · rw [List.getElem?_eq_none (by simp; omega), List.getElem?_eq_none (by simp; omega)]
     · rfl
def fcop (P : Program) (G : Nat -> Option AV) (o : Oper) : FOp := match o.op with
 | .load t x => match fx G x, aagg P t, asize P t with
   | some x, some a, some n => .load a n x
   | _, _, _ => .bad
 | .convert s d x => match P.underlying s, P.underlying d with
   | some (.slice e), some .string => match P.underlying e, fx G x with
     | some (.int .u8), some x => .b2s x
     | _, _ => .bad
   | some .string, some (.slice _) => .gena
   | some (.slice _), some (.slice _) => .gene
   | _, _ => .pure (fpure P G o)
 | .alloc t => match azero P t, zaf P t with
   | some z, false => .zero (objOf z.cells)
   | some _, true => .gena
   | none, _ => .bad
 | .makeMap .. => .gena
 | .lookup t x k ok => match P.underlying t with
   | some (.map kt et) => match (P.underlying kt).bind keyT, azero P et, fx G x, fx G k with
     | some d, some z, some x, some k => .look d z ok x k
     | _, _, _, _ => .bad
   | _ => .bad
 | .mapUpdate t m k x | .insert t m k x => match P.underlying t with
   | some (.map kt _) => match (P.underlying kt).bind keyT, fx G m, fx G k, fx G x with
     | some d, some m, some k, some x => .mput d m k x
     | _, _, _, _ => .bad
   | _ => .bad
 | .box t x => match fx G x, zaf P t with
   | some x, false => .box x
   | some _, true => .gena
   | none, _ => .bad
 | .buildSlice .. => .gena
 | .makeSlice .. => .gena
 | .store t x v => match fx G x, fx G v, asize P t with
   | some x, some v, some n => .store n x v
   | _, _, _ => .bad
 | .call c => match c.callee with
   | .builtin .append => match c.argTypes.toList, c.args.toList with
     | [t, u], [x, y] => match P.underlying t, P.underlying u with
       | some (.slice e), some (.slice _) => match P.info? e, azero P e, fx G x, fx G y with
         | some info, some z, some x, some y => if z.cells.length = info.size then .app info.size info.bytes x y else .gene
         | _, _, _, _ => .gene
       | _, _ => .gene
     | _, _ => .gene
   | .builtin .copy => match c.argTypes.toList, c.args.toList with
     | [t, u], [x, y] => match P.underlying t, P.underlying u with
       | some (.slice e), some (.slice _) => match asize P e, fx G x, fx G y with
         | some z, some x, some y => .cpy z x y
         | _, _, _ => .gene
       | _, _ => .gene
     | _, _ => .gene
   | .builtin .clear => match c.argTypes.toList, c.args.toList with
     | [t], [x] => match P.underlying t with
       | some (.slice e) => match azero P e, fx G x with
         | some z, some x => .clr z.cells x
         | _, _ => .gene
       | _ => .gene
     | _, _ => .gene
   | .builtin .delete => .gene
   | .builtin .len => match c.argTypes.toList, c.args.toList with
     | [t], [x] => match P.underlying t, fx G x with
       | some (.map _ _), some x => .mlen x
       | _, _ => .pure (fpure P G o)
     | _, _ => .pure (fpure P G o)
   | .builtin _ => .pure (fpure P G o)
   | .value f => match fx G f, fxs G c.args.toList with
     | some f, some as_ => .call f as_
     | _, _ => .bad
   | _ => .bad
 | _ => .pure (fpure P G o)
def GoodK (P : Program) (G : Nat -> Option AV) (ω : Om) : Prop := ∀ f args H k, ω f args H k = true -> ∃ v H', Does P G f args H.abs (fun r h => r = v /\ h = H'.abs) /\ H.next <= H'.next /\ k v H' = true
def Comes (P : Program) (G : Nat -> Option AV) (ops : Array Oper) (o : Oper) (f : FOp) (base : Nat) (T : ET) (H : FH) (k : AV -> FH -> Bool) : Prop :=
 ∃ v kd H', Step P G ops o T.fn H.abs v kd H'.abs /\ H.next <= H'.next /\ kd.isEff = f.isE /\ (kd.isAlloc = true -> f.isA = true) /\
   kd.isRead = f.isR /\ (kd.isRead = true -> ∀ A : Nat -> Option AObj, (∀ i, i < base -> A i = H.abs.get i) -> aread P (aval G T.fn) A o = some v) /\ k v H' = true
section
variable {ω : Om} {P : Program} {G : Nat -> Option AV} {ops : Array Oper} {o : Oper} {T : ET} {H : FH} {base : Nat} {k : AV -> FH -> Bool} {f : FOp}
theorem comes_pure (hw : zap ops T.fn o = true) (hE : f.isE = false) (hRd : f.isR = false) (h : GoodP P G o T fun v => k v H) : Comes P G ops o f base T H k := by
 obtain ⟨v, h1, h2⟩ := h
 exact ⟨v, .idle, H, ⟨.inr ⟨hw, h1⟩, rfl⟩, Nat.le_refl _, hE.symm, fun h => by simp [Kind.isAlloc] at h, hRd.symm, fun h => by simp [Kind.isRead] at h, h2⟩
theorem zaT (hw : zap ops T.fn o = true) (hE : f.isE = false) (hf : f.isR = true) {v : AV} (h : ∀ A : Nat -> Option AObj, (∀ i, i < base -> A i = H.abs.get i) -> aread P (aval G T.fn) A o = some v) (hk : k v H = true) : Comes P G ops o f base T H k :=
 ⟨v, .read, H, ⟨hw, h _ fun _ _ => rfl, rfl⟩, Nat.le_refl _, hE.symm, fun h => by simp [Kind.isAlloc] at h, hf.symm, fun _ => h, hk⟩
theorem comes_allocX (hw : zap ops T.fn o = true) (hE : f.isE = false) (hRd : f.isR = false) (hf : f.isA = true) {x : AObj} {g : Nat -> AV} {H' : FH} (ha : aalloc P (aval G T.fn) o = some (x, g)) (h1 : H'.abs = H.abs.push x) (h2 : k (g H.next) H' = true) : Comes P G ops o f base T H k := by
 refine ⟨g H.next, .alloc x, H', ⟨hw, g, ha, rfl, h1⟩, ?_, hE.symm, fun _ => hf, hRd.symm, fun h => by simp [Kind.isRead] at h, h2⟩
 have : H'.abs.next = H.next + 1 := by rw [h1]; rfl
 have e : H'.abs.next = H'.next := rfl
 omega
theorem comes_alloc (hw : zap ops T.fn o = true) (hE : f.isE = false) (hRd : f.isR = false) (hf : f.isA = true) {b : FObj} {cs : List AV} {g : Nat -> AV} (ha : aalloc P (aval G T.fn) o = some (.cells cs, g)) (hb : b.list = cs) (h : H.newK b (fun i H => k (g i) H) false = true) : Comes P G ops o f base T H k := by
 obtain ⟨H', h1, h2⟩ := FH.newK_inv h
 have h1 : H'.abs = H.abs.push (.cells cs) := by rw [h1]; unfold FObj.abs; rw [hb]
 exact comes_allocX hw hE hRd hf ha h1 h2
theorem comes_eff (hw : zap ops T.fn o = true) (hf : f.isE = true) (hRd : f.isR = false) {v : AV} {e : AEff} {H' : FH} (he : aeff P (aval G T.fn) H.abs.get H.abs.next o = some (v, e)) (hH : H'.abs = H.abs.eff e) (hk : k v H' = true) : Comes P G ops o f base T H k := by
 refine ⟨v, .eff, H', ⟨hw, .inl ⟨e, he, hH⟩⟩, ?_, hf.symm, fun h => by simp [Kind.isAlloc] at h, hRd.symm, fun h => by simp [Kind.isRead] at h, hk⟩
 have h1 := eff_next H.abs e
 rw [<- hH] at h1
 exact h1
theorem splice_one (cs : List AV) (o : Nat) (a : AV) (h : o < cs.length) : splice cs o [a] = cs.set o a := by
 rw [splice_cons cs o a [] h, splice_nil]
theorem fcop_sound (hω : GoodK P G ω) (hw : zap ops T.fn o = true) (h : (fcop P G o).run ω P G o base T H k = true) : Comes P G ops o (fcop P G o) base T H k := by
 have pureCase : ∀ f, f = FOp.pure (fpure P G o) -> f.run ω P G o base T H k = true -> Comes P G ops o f base T H k := by
  rintro _ rfl h
  exact comes_pure hw rfl rfl (fpure_sound o h)
 have geneCase : ∀ f, f = FOp.gene -> f.run ω P G o base T H k = true -> Comes P G ops o f base T H k := by
  rintro _ rfl h
  obtain ⟨⟨v, e⟩, h1, h2⟩ := optK_inv (show optK (aeff P (aval G T.fn) H.abs.get H.next o) (fun x => effK H x.2 (k x.1)) = true from h)
  obtain ⟨H', h3, h4⟩ := effK_inv h2
  exact comes_eff hw rfl rfl h1 h3 h4
 have genaCase : ∀ f, f = FOp.gena -> f.run ω P G o base T H k = true -> Comes P G ops o f base T H k := by
  rintro _ rfl h
  obtain ⟨⟨x, g⟩, h1, h2⟩ := optK_inv (show optK (aalloc P (aval G T.fn) o) (fun x => H.newX x.1 (fun i H => k (x.2 i) H) false) = true from h)
  obtain ⟨H', h3, h4⟩ := FH.newX_inv h2
  exact comes_allocX hw rfl rfl rfl h1 h3 h4
 have badCase : ∀ f, f = FOp.bad -> f.run ω P G o base T H k = true -> Comes P G ops o f base T H k := by
  rintro _ rfl h
  have h : false = true := h
  simp at h
 generalize hf : fcop P G o = f at h ⊢
 unfold fcop at hf
 split at hf
 · rename_i t x ho
   split at hf
   · rename_i x' a n hx ha hn
     subst hf
     have h : loadK base a n (x'.get T) H k = true := h
     rcases AV.onPtr_inv h with ⟨i, off, hv, h⟩ | ⟨cs, hv, h⟩
     · obtain ⟨h1, h⟩ := zah h
       have h1 : i < base := Nat.le_of_ble_eq_true h1
       obtain ⟨b, hb, h, _⟩ := FH.atK_inv h
       have hb : H.abs.get i = some (.cells b.list) := hb
       cases a with
       | true =>
         obtain ⟨h2, h3⟩ := FObj.cutK_inv (show b.cutK off n (fun l => k (.agg l) H) false = true from h)
         refine zaT hw rfl rfl (fun A hA => ?_) h3
         simp only [aread, ho, fx_eq hx, hv, aat, hA i h1, hb]
         rw [if_pos (by omega)]
         simp only [acut, ha, hn]
         rw [if_pos (by simp; omega)]
       | false =>
         obtain ⟨v, h2, h3⟩ := FObj.cellK_inv (show b.cellK off (fun v => k v H) false = true from h)
         refine zaT hw rfl rfl (fun A hA => ?_) h3
         simp only [aread, ho, fx_eq hx, hv, aat, hA i h1, hb]
         have hlt : off < b.list.length := by
          rcases Nat.lt_or_ge off b.list.length with g | g
          · exact g
          · rw [List.getElem?_eq_none g] at h2; simp at h2
         rw [if_pos (by omega)]
         simp only [acut, ha, hn]
         rw [List.getElem?_drop, Nat.add_zero]; exact h2
     · cases a with
       | true =>
         have h : takeK cs n (fun l => k (.agg l) H) false = true := h
         rw [takeK_eq] at h
         split at h <;> try (simp at h; done)
         rename_i h2
         refine zaT hw rfl rfl (fun A hA => ?_) h
         simp only [aread, ho, fx_eq hx, hv, aat, acut, ha, hn, if_pos h2]
       | false =>
         have h : nthK cs 0 (fun v => k v H) false = true := h
         rw [nthK_eq] at h
         split at h <;> try (simp at h; done)
         rename_i v hc
         refine zaT hw rfl rfl (fun A hA => ?_) h
         simp only [aread, ho, fx_eq hx, hv, aat, acut, ha, hn, hc]
   · exact badCase _ hf.symm h
 · rename_i s d x ho
   split at hf
   · rename_i e hs hd
     split at hf
     · rename_i x' he hx
       subst hf
       have h : b2sK base (x'.get T) H k = true := h
       rcases AV.onSl_inv h with ⟨hv, h⟩ | ⟨i, off, z, len, cap, opn, hv, h⟩ | ⟨cs, len, hv, h⟩
       · refine zaT hw rfl rfl (fun A hA => ?_) h
         simp only [aread, ho, hs, hd, he, fx_eq hx, hv]
       · obtain ⟨h1, h⟩ := zah h
         have h1 : i < base := Nat.le_of_ble_eq_true h1
         obtain ⟨b, hb, h, _⟩ := FH.atK_inv h
         have hb : H.abs.get i = some (.cells b.list) := hb
         obtain ⟨h2, h⟩ := FObj.cutK_inv h
         obtain ⟨bs, h3, h⟩ := bytesK_inv h
         refine zaT hw rfl rfl (fun A hA => ?_) h
         simp only [aread, ho, hs, hd, he, fx_eq hx, hv, zaj, hA i h1, hb, Nat.mul_one, if_pos h2, h3, Option.map_some]
       · rw [takeK_eq] at h
         split at h <;> try (simp at h; done)
         rename_i h2
         obtain ⟨bs, h3, h⟩ := bytesK_inv h
         refine zaT hw rfl rfl (fun A hA => ?_) h
         simp only [aread, ho, hs, hd, he, fx_eq hx, hv, zaj, Nat.mul_one, if_pos h2, h3, Option.map_some]
     · exact badCase _ hf.symm h
   · exact genaCase _ hf.symm h
   · exact geneCase _ hf.symm h
   · exact pureCase _ hf.symm h
 · rename_i t ho
   split at hf
   · rename_i z hz hb
     subst hf
     exact comes_alloc (b := objOf z.cells) (g := fun i => .ptr i 0) hw rfl rfl rfl (by simp only [aalloc, ho, hz, hb]; simp) (objOf_list _) h
   · exact genaCase _ hf.symm h
   · exact badCase _ hf.symm h
 · exact genaCase _ hf.symm h
 · rename_i t x key ok ho
   split at hf
   · rename_i kt et ht
     split at hf
     · rename_i d z x' key' hd hz hx hk
       subst hf
       rw [Option.bind_eq_some_iff] at hd
       obtain ⟨dd, hd1, hd2⟩ := hd
       obtain ⟨v, h1, h2⟩ := lookK_inv hd2 ht hd1 hz (show lookK base d z ok (x'.get T) (key'.get T) H k = true from h)
       exact zaT hw rfl rfl (fun A hA => by simp only [aread, ho, fx_eq hx, fx_eq hk]; exact h1 A hA) h2
     · exact badCase _ hf.symm h
   · exact badCase _ hf.symm h
 · rename_i t m key x ho
   split at hf
   · rename_i kt et ht
     split at hf
     · rename_i d m' key' x' hd hm hk hx
       subst hf
       rw [Option.bind_eq_some_iff] at hd
       obtain ⟨dd, hd1, hd2⟩ := hd
       obtain ⟨e, H', h1, h2, h3⟩ := mputK_inv hd2 ht hd1 (show mputK d (m'.get T) (key'.get T) (x'.get T) H k = true from h)
       refine comes_eff (v := .tuple []) (e := e) (H' := H') hw rfl rfl ?_ h2 h3
       simp only [aeff, ho, fx_eq hm, fx_eq hk, fx_eq hx, h1, Option.map_some]
     · exact badCase _ hf.symm h
   · exact badCase _ hf.symm h
 · rename_i t m key x ho
   split at hf
   · rename_i kt et ht
     split at hf
     · rename_i d m' key' x' hd hm hk hx
       subst hf
       rw [Option.bind_eq_some_iff] at hd
       obtain ⟨dd, hd1, hd2⟩ := hd
       obtain ⟨e, H', h1, h2, h3⟩ := mputK_inv hd2 ht hd1 (show mputK d (m'.get T) (key'.get T) (x'.get T) H k = true from h)
       refine comes_eff (v := .tuple []) (e := e) (H' := H') hw rfl rfl ?_ h2 h3
       simp only [aeff, ho, fx_eq hm, fx_eq hk, fx_eq hx, h1, Option.map_some]
     · exact badCase _ hf.symm h
   · exact badCase _ hf.symm h
 · rename_i t x ho
   split at hf
   · rename_i x' hx hb
     subst hf
     exact comes_alloc (b := .lst (x'.get T).cs) (g := fun i => .ptr i 0) (cs := (x'.get T).cells) hw rfl rfl rfl (by simp only [aalloc, ho, fx_eq hx, hb]; simp) (AV.cs_eq _) h
   · exact genaCase _ hf.symm h
   · exact badCase _ hf.symm h
 · exact genaCase _ hf.symm h
 · exact genaCase _ hf.symm h
 · rename_i t x v ho
   split at hf
   · rename_i x' v' n hx hv hn
     subst hf
     have h : storeK n (x'.get T) (v'.get T) H k = true := h
     rcases AV.onPtr_inv h with ⟨i, off, hp, h⟩ | ⟨cs, hp, h⟩
     · obtain ⟨b, hb, h, hi⟩ := FH.atK_inv h
       have hb : H.abs.get i = some (.cells b.list) := hb
       cases hsc : (v'.get T).sc with
       | true =>
         rw [hsc, ifK_true] at h
         obtain ⟨h1, h⟩ := zah h
         have h1 : n = 1 := by simpa using h1
         obtain ⟨h2, b', h3, h⟩ := FObj.wr1_inv h
         obtain ⟨H', h4, h⟩ := FH.putK_inv hi h
         have hcl : (v'.get T).cells = [v'.get T] := by
          rw [AV.sc_eq] at hsc
          cases hvv : v'.get T <;> rw [hvv] at hsc <;> first | rfl | simp [AV.scalar] at hsc
         refine comes_eff (v := .tuple []) (e := .put i (.cells (b.list.set off (v'.get T)))) (H' := H') hw rfl rfl ?_ ?_ h
         · simp only [aeff, ho, fx_eq hx, hp, fx_eq hv, hb, hn, hcl]
           rw [AV.sc_eq] at hsc
           rw [if_pos ⟨by simp [h1], by simp [hsc], by omega⟩, splice_one _ _ _ h2]
         · rw [h4]; unfold FObj.abs; rw [h3]; rfl
       | false =>
         rw [hsc, zaI] at h
         obtain ⟨cs, ha, h⟩ := AV.onAgg_inv h
         obtain ⟨h1, h⟩ := zah h
         obtain ⟨h2, h⟩ := zah h
         rw [zaE] at h2
         have h2 : cs.length = n := by simpa using h2
         obtain ⟨h3, b', h4, h⟩ := FObj.wrs_inv h
         obtain ⟨H', h5, h⟩ := FH.putK_inv hi h
         refine comes_eff (v := .tuple []) (e := .put i (.cells (splice b.list off cs))) (H' := H') hw rfl rfl ?_ ?_ h
         · have hcl : (v'.get T).cells = cs := by rw [ha]; rfl
           simp only [aeff, ho, fx_eq hx, hp, fx_eq hv, hb, hn, hcl]
           rw [if_pos ⟨h2, allB_sc h1, by omega⟩]
         · rw [h5]; unfold FObj.abs; rw [h4]; rfl
     · simp at h
   · exact badCase _ hf.symm h
 · rename_i c ho
   split at hf
   · rename_i hc
     split at hf
     · rename_i t u x y ht hx
       split at hf
       · rename_i e e' hut huu
         split at hf
         · rename_i info z x' y' hi hz hx' hy'
           split at hf
           · rename_i hzl
             subst hf
             have h : appendK info.size info.bytes (x'.get T) (y'.get T) H k = true := h
             obtain ⟨v, eff, H', h1, h2, h3⟩ := appendK_inv hut huu rfl hi hz hzl rfl rfl h
             refine comes_eff hw rfl rfl ?_ h2 h3
             simp only [aeff, ho, hc, ht, hx, fx_eq hx', fx_eq hy', h1]
           · exact geneCase _ hf.symm h
         · exact geneCase _ hf.symm h
       · exact geneCase _ hf.symm h
     · exact geneCase _ hf.symm h
   · rename_i hc
     split at hf
     · rename_i t u x y ht hx
       split at hf
       · rename_i e e' hut huu
         split at hf
         · rename_i z x' y' hz hx' hy'
           subst hf
           have h : cpyK z (x'.get T) (y'.get T) H k = true := h
           obtain ⟨v, eff, H', h1, h2, h3⟩ := cpyK_inv hut hz h
           refine comes_eff hw rfl rfl ?_ h2 h3
           simp only [aeff, ho, hc, ht, hx, fx_eq hx', fx_eq hy', h1]
         · exact geneCase _ hf.symm h
       · exact geneCase _ hf.symm h
     · exact geneCase _ hf.symm h
   · rename_i hc
     split at hf
     · rename_i t x ht hx
       split at hf
       · rename_i e hut
         split at hf
         · rename_i z x' hz hx'
           subst hf
           have h : clrK z.cells (x'.get T) H k = true := h
           obtain ⟨v, eff, H', h1, h2, h3⟩ := clrK_inv hut hz h
           refine comes_eff hw rfl rfl ?_ h2 h3
           simp only [aeff, ho, hc, ht, hx, fx_eq hx', h1]
         · exact geneCase _ hf.symm h
       · exact geneCase _ hf.symm h
     · exact geneCase _ hf.symm h
   · exact geneCase _ hf.symm h
   · rename_i hc
     split at hf
     · rename_i t x ht hx
       split at hf
       · rename_i kt et x' hut hx'
         subst hf
         obtain ⟨v, h1, h2⟩ := mlenK_inv hut (show mlenK base (x'.get T) H k = true from h)
         exact zaT hw rfl rfl (fun A hA => by simp only [aread, ho, hc, ht, hx, fx_eq hx']; exact h1 A hA) h2
       · exact pureCase _ hf.symm h
     · exact pureCase _ hf.symm h
   · exact pureCase _ hf.symm h
   · rename_i fo hc
     split at hf
     · rename_i f' as_ hf' has
       subst hf
       have h : callK ω (f'.get T) as_ T H k = true := h
       obtain ⟨fn, a, c', hv, h⟩ := AV.onFunc_inv h
       obtain ⟨fid, hfn, h'⟩ := fnK_inv h
       subst hfn
       rw [fxsK_eq, appK_eq, appK_eq] at h'
       obtain ⟨v, H', h1, h2, h3⟩ := hω _ _ _ _ h'
       refine ⟨v, .eff, H', ⟨hw, .inr ⟨fid, a ++ as_.map (·.get T) ++ c', ?_, ?_⟩⟩, h2, rfl, fun h => by simp [Kind.isAlloc] at h, rfl, fun h => by simp [Kind.isRead] at h, h3⟩
       · simp only [zaJ, ho, hc, fx_eq hf', hv, fxs_eq has]
       · rw [List.append_assoc]; exact h1
     · exact badCase _ hf.symm h
   · exact badCase _ hf.symm h
 · exact pureCase _ hf.symm h
def fcopZ (P : Program) (G : Nat -> Option AV) (o : Oper) : FOp := match o.op with
 | .alloc _ | .box .. | .buildSlice .. | .makeSlice .. => .frz
 | _ => fcop P G o
def CopOk (P : Program) (G : Nat -> Option AV) (ω : Om) (ops : Array Oper) (cop : Oper -> FOp) : Prop := ∀ o T H base k, zap ops (ET.fn T) o = true -> (cop o).run ω P G o base T H k = true -> Comes P G ops o (cop o) base T H k
theorem copOk (hω : GoodK P G ω) : CopOk P G ω ops (fcop P G) := fun _ _ _ _ _ hw h => fcop_sound hω hw h
theorem copZOk (hω : GoodK P G ω) : CopOk P G ω ops (fcopZ P G) := fun o T H base k hw h => by
 have key : (FOp.frz).run ω P G o base T H k = true -> Comes P G ops o .frz base T H k := fun h => by
  obtain ⟨v, h1, h2⟩ := optK_inv (show optK (afrz P (aval G T.fn) o) (fun v => k v H) = true from h)
  exact ⟨v, .frz, H, ⟨hw, h1, rfl⟩, Nat.le_refl _, rfl, fun h => by simp [Kind.isAlloc] at h, rfl, fun h => by simp [Kind.isRead] at h, h2⟩
 unfold fcopZ at h ⊢
 generalize o.op = op at h ⊢
 cases op <;> first | exact key h | exact fcop_sound hω hw h
end
inductive FG where
 | no
 | on (x : FX) (w : Bool)
 | never
 | bad
inductive FD where
 | no
 | at (p q : P32)
structure FOper where
 g : FG
 d : FD
 e : Bool
 f : FOp
 o : Oper
def fcg (ops : Array Oper) (o : Oper) : FG := match o.guard with
 | none => .no
 | some (j, w) => match (ops[j]?).bind (·.dst) with
   | some d => if d < 1024 then .on (.loc (P32.of (d / 32)) (P32.of (d % 32))) w else .bad
   | none => .never
def fcd (o : Oper) : FD := match o.dst with
 | none => .no
 | some d => .at (P32.of (d / 32)) (P32.of (d % 32))
def fcoper (cop : Oper -> FOp) (ops : Array Oper) (draw : Bool) (o : Oper) : FOper := ⟨fcg ops o, fcd o, draw && (cop o).isE, cop o, o⟩
noncomputable def eqB (a b : Bool) : Bool := Bool.rec (motive := fun _ => Bool) (notK b) b a
theorem eqB_eq (a b : Bool) : eqB a b = (a == b) := by cases a <;> cases b <;> rfl
noncomputable def guardK (g : FG) (T : ET) (y n : Bool) : Bool := FG.rec (motive := fun _ => Bool) y (fun x w => (x.get T).onBool n fun b => ifK (eqB b w) y n) n false g
noncomputable def putD (d : FD) (v : AV) (T : ET) (k : ET -> Bool) : Bool := FD.rec (motive := fun _ => Bool) (k T) (fun p q => ET.put p q v T k) d
theorem guardK_inv {ops : Array Oper} {o : Oper} {T : ET} {y n : Bool} (h : guardK (fcg ops o) T y n = true) : (zap ops T.fn o = true /\ y = true) \/ (zap ops T.fn o = false /\ n = true) := by
 unfold fcg at h
 split at h
 · rename_i hg; exact .inl ⟨by simp [zap, hg], h⟩
 · rename_i j w hg
   split at h
   · rename_i d hd
     split at h
     · rename_i hlt
       have e : FX.get (.loc (P32.of (d / 32)) (P32.of (d % 32))) T = T.fn d := by simp [FX.get, ET.fn, hlt]
       have h : (FX.get (.loc (P32.of (d / 32)) (P32.of (d % 32))) T).onBool n (fun b => ifK (eqB b w) y n) = true := h
       rw [e] at h
       rcases AV.onBool_inv h with ⟨b, hb, h⟩ | ⟨h, hne⟩
       · rw [eqB_eq] at h
         cases hbw : b == w with
         | true => rw [hbw] at h; exact .inl ⟨by simp only [zap, hg, ayield, hd, hb]; simpa using hbw, h⟩
         | false => rw [hbw] at h; exact .inr ⟨by simp only [zap, hg, ayield, hd, hb]; simpa using hbw, h⟩
       · refine .inr ⟨?_, h⟩
         simp only [zap, hg, ayield, hd]
         cases hv : T.fn d <;> first | rfl | exact absurd hv (hne _)
     · have h : false = true := h
       simp at h
   · rename_i hd
     exact .inr ⟨by simp [zap, hg, ayield, hd], h⟩
theorem putD_eq {o : Oper} {v : AV} {T : ET} {k : ET -> Bool} {N : Nat} (hN : N <= 1024) (hd : ∀ j, o.dst = some j -> j < N) (h : putD (fcd o) v T k = true) : ∃ T', T'.fn = tput T.fn o.dst v /\ k T' = true := by
 unfold fcd at h
 split at h
 · rename_i hd'; exact ⟨T, by rw [hd']; rfl, h⟩
 · rename_i d hd'
   have h : ET.put (P32.of (d / 32)) (P32.of (d % 32)) v T k = true := h
   rw [ET.put_eq] at h
   exact ⟨_, by rw [ET.fn_set T d v (Nat.lt_of_lt_of_le (hd d hd') hN), hd'], h⟩
noncomputable def runL (ω : Om) (P : Program) (G : Nat -> Option AV) (l : List FOper) : Nat -> ET -> FH -> (ET -> FH -> Bool) -> Bool :=
 List.rec (motive := fun _ => Nat -> ET -> FH -> (ET -> FH -> Bool) -> Bool) (fun _ T H k => k T H)
  (fun fo _ ih base T H k => FOper.rec (motive := fun _ => Bool) (fun g d e f o =>
    guardK g T (f.run ω P G o base T H fun v H' => v.force fun v => putD d v T fun T => ih (ifK e H'.next base) T H' k) (putD d zaz T fun T => ih base T H k)) fo) l
def BOk (P : Program) (G : Nat -> Option AV) (cop : Oper -> FOp) (draw : Bool) (Hn : AHeap) : List Oper -> List Full -> Nat -> Prop
 | o :: l, x :: u, b => (x.k.isEff = true -> (cop o).isE = true) /\ (x.k.isAlloc = true -> (cop o).isA = true) /\
     (x.k.isRead = true -> (cop o).isR = true /\ ∀ A : Nat -> Option AObj, (∀ i, i < b -> A i = x.H.get i) -> aread P (aval G x.T) A o = some x.v) /\
     BOk P G cop draw Hn l u (if draw = true /\ x.k.isEff = true then (hAt u Hn 0).next else b)
 | _, _, _ => True
section
variable {ω : Om} {P : Program} {G : Nat -> Option AV} {N : Nat} {ops : Array Oper} {cop : Oper -> FOp}
theorem runL_inv (hω : CopOk P G ω ops cop) (hN : N <= 1024) (draw : Bool) : ∀ (l : List Oper) (base : Nat) (T : ET) (H : FH) (k : ET -> FH -> Bool), dstOk N l = true -> runL ω P G (l.map (fcoper cop ops draw)) base T H k = true ->
  ∃ u T' H', Tr P G ops l T.fn H.abs u T'.fn (FH.abs H') /\ H.next <= H'.next /\ BOk P G cop draw H'.abs l u base /\ k T' H' = true
 | [], base, T, H, k, _, h => ⟨[], T, H, .nil, Nat.le_refl _, trivial, h⟩
 | o :: l, base, T, H, k, hd, h => by
   have h : guardK (fcg ops o) T ((cop o).run ω P G o base T H fun v H' => v.force fun v => putD (fcd o) v T fun T => runL ω P G (l.map (fcoper cop ops draw)) (ifK (draw && (cop o).isE) H'.next base) T H' k)
     (putD (fcd o) zaz T fun T => runL ω P G (l.map (fcoper cop ops draw)) base T H k) = true := h
   have hd0 : ∀ j, o.dst = some j -> j < N := fun j hj => by
    unfold dstOk at hd
    rw [List.all_cons, Bool.and_eq_true] at hd
    have := hd.1
    rw [hj] at this
    simpa using this
   have hdr : dstOk N l = true := by
    unfold dstOk at hd ⊢
    rw [List.all_cons, Bool.and_eq_true] at hd
    exact hd.2
   rcases guardK_inv h with ⟨hw, h⟩ | ⟨hw, h⟩
   · obtain ⟨v, kd, H1, hs, hn, he, ha, hr0, hr, h⟩ := hω _ _ _ _ _ hw h
     have h := (AV.force_eq v _).symm.trans h
     obtain ⟨T1, hT1, h⟩ := putD_eq hN hd0 h
     obtain ⟨u, T', H', htr, hn', hb, hk⟩ := runL_inv hω hN draw l _ T1 H1 k hdr h
     refine ⟨⟨T.fn, H.abs, v, kd⟩ :: u, T', H', .cons hs hn (by rw [<- hT1]; exact htr), by omega, ⟨fun h => he ▸ h, ha, fun h => ⟨hr0 ▸ h, hr h⟩, ?_⟩, hk⟩
     have h0 : hAt u H'.abs 0 = H1.abs := (tr_spec htr).1
     rw [h0]
     rw [<- he] at hb
     show BOk P G cop draw H'.abs l u (if draw = true /\ kd.isEff = true then H1.next else base)
     cases draw <;> cases hk : kd.isEff <;> rw [hk] at hb <;> exact hb
   · obtain ⟨T1, hT1, h⟩ := putD_eq hN hd0 h
     obtain ⟨u, T', H', htr, hn', hb, hk⟩ := runL_inv hω hN draw l _ T1 H k hdr h
     refine ⟨⟨T.fn, H.abs, zaz, .idle⟩ :: u, T', H', .cons ⟨.inl ⟨hw, rfl⟩, rfl⟩ (Nat.le_refl _) (by rw [<- hT1]; exact htr), hn', ⟨fun h => by simp [Kind.isEff] at h, fun h => by simp [Kind.isAlloc] at h, fun h => by simp [Kind.isRead] at h, ?_⟩, hk⟩
     rw [if_neg (by simp [Kind.isEff])]
     exact hb
end
structure Flags where
 e : Bool
 a : Bool
 r : Bool
def zay (f : FOp) : Flags := ⟨f.isE, f.isA, f.isR⟩
def statOk (fs : List Flags) (as_ : List Nat) : Bool :=
 fs.zipIdx.all fun (y, j) => fs.zipIdx.all fun (x, i) => !decide (i < j) || !((y.e && (x.e || x.a || x.r)) || (y.r && x.e)) || (as_.getD j 0).testBit i
section
variable {ω : Om} {P : Program} {G : Nat -> Option AV} {N : Nat} {ops : Array Oper} {cop : Oper -> FOp}
theorem tr_al {l : List Oper} {T T' : Nat -> AV} {H H' : AHeap} {u : List Full} {Q : Exit -> (Nat -> AV) -> AHeap -> Prop} (h : Tr P G ops l T H u T' H') (hd : dstOk N l = true) (hQ : Q .normal T' H') : AL P G N ops l Q T H := by
 induction h with
 | nil => exact al_nil hQ
 | @cons o r T H H1 v k s T' H' hs hn h ih =>
   have hd0 : ∀ j, o.dst = some j -> j < N := fun j hj => by
    unfold dstOk at hd
    rw [List.all_cons, Bool.and_eq_true] at hd
    have := hd.1
    rw [hj] at this
    simpa using this
   have hdr : dstOk N r = true := by
    unfold dstOk at hd ⊢
    rw [List.all_cons, Bool.and_eq_true] at hd
    exact hd.2
   exact step_al hs hd0 (ih hdr hQ)
theorem step_keep {o : Oper} {T : Nat -> AV} {H H' : AHeap} {v : AV} {k : Kind} (hs : Step P G ops o T H v k H') (hk : k.isEff = false) {i : Nat} (hi : i < H.next) : H'.get i = H.get i := by
 cases k with
 | idle => rw [hs.2]
 | read => rw [hs.2.2]
 | alloc cs =>
   obtain ⟨_, f, _, _, h⟩ := hs
   rw [h, AHeap.get_push, if_neg (by omega)]
 | frz => rw [hs.2.2]
 | eff => simp [Kind.isEff] at hk
theorem BOk.at {Hn : AHeap} : ∀ (l : List Oper) (u : List Full) (b i : Nat) (x : Full) (o : Oper), BOk P G cop true Hn l u b -> u[i]? = some x -> l[i]? = some o ->
  (x.k.isEff = true -> (cop o).isE = true) /\ (x.k.isAlloc = true -> (cop o).isA = true) /\
  (x.k.isRead = true -> (cop o).isR = true /\ ∃ b', (∀ A : Nat -> Option AObj, (∀ i, i < b' -> A i = x.H.get i) -> aread P (aval G x.T) A o = some x.v) /\
    ((b' = b /\ ∀ e y, e < i -> u[e]? = some y -> y.k.isEff = false) \/ ∃ e y, e < i /\ u[e]? = some y /\ y.k.isEff = true /\ b' = (hAt u Hn (e + 1)).next /\ ∀ e' y', e < e' -> e' < i -> u[e']? = some y' -> y'.k.isEff = false))
 | [], u, b, i, x, o, _, _, ho => by simp at ho
 | q :: l, [], b, i, x, o, _, hx, _ => by simp at hx
 | q :: l, z :: u, b, 0, x, o, h, hx, ho => by
   simp only [List.getElem?_cons_zero, Option.some.injEq] at hx ho
   subst hx; subst ho
   obtain ⟨h1, h2, h3, _⟩ := h
   exact ⟨h1, h2, fun hr => ⟨(h3 hr).1, b, (h3 hr).2, .inl ⟨rfl, fun e y he => absurd he (Nat.not_lt_zero _)⟩⟩⟩
 | q :: l, z :: u, b, i + 1, x, o, h, hx, ho => by
   obtain ⟨_, _, _, h4⟩ := h
   have hx' : u[i]? = some x := by simpa using hx
   have ho' : l[i]? = some o := by simpa using ho
   obtain ⟨g1, g2, g3⟩ := BOk.at l u _ i x o h4 hx' ho'
   refine ⟨g1, g2, fun hr => ⟨(g3 hr).1, ?_⟩⟩
   obtain ⟨b', k1, k2⟩ := (g3 hr).2
   refine ⟨b', k1, ?_⟩
   rcases k2 with ⟨hb, hno⟩ | ⟨e, y, he, hy, hye, hb, hno⟩
   · cases hz : z.k.isEff with
     | true =>
       rw [hz] at hb
       refine .inr ⟨0, z, by omega, rfl, hz, ?_, fun e' y' h1 h2 h3 => ?_⟩
       · simpa [hAt] using hb
       · cases e' with
         | zero => omega
         | succ e' => exact hno e' y' (by omega) (by simpa using h3)
     | false =>
       rw [hz] at hb
       refine .inl ⟨by simpa using hb, fun e y he hy => ?_⟩
       cases e with
       | zero => simp at hy; subst hy; exact hz
       | succ e => exact hno e y (by omega) (by simpa using hy)
   · refine .inr ⟨e + 1, y, by omega, by simpa using hy, hye, by simpa [hAt] using hb, fun e' y' h1 h2 h3 => ?_⟩
     cases e' with
     | zero => omega
     | succ e' => exact hno e' y' (by omega) (by omega) (by simpa using h3)
theorem statOk_spec {fs : List Flags} {i j : Nat} {x y : Flags} (h : statOk fs (ancs ops.toList) = true) (hij : i < j) (hx : fs[i]? = some x) (hy : fs[j]? = some y) (hc : ((y.e && (x.e || x.a || x.r)) || (y.r && x.e)) = true) : Reach ops i j := by
 unfold statOk at h
 rw [List.all_eq_true] at h
 have := h (y, j) (mem_zipIdx hy)
 simp only [List.all_eq_true] at this
 have := this (x, i) (mem_zipIdx hx)
 simp only [hij, decide_true, Bool.not_true, Bool.false_or, hc] at this
 exact zaA this
def EffOrd (cop : Oper -> FOp) (ops : Array Oper) : Prop := ∀ i j o q, i < j -> ops[i]? = some o -> ops[j]? = some q -> (cop q).isE = true -> ((cop o).isE = true \/ (cop o).isA = true) -> Reach ops i j
def ReadOrd (cop : Oper -> FOp) (ops : Array Oper) (r : Nat) : Prop := ∀ e o, ops[e]? = some o -> (cop o).isE = true -> (e < r -> Reach ops e r) /\ (r < e -> Reach ops r e)
def ReadSame (P : Program) (G : Nat -> Option AV) (ops : Array Oper) (u : List Full) (Hn : AHeap) (r : Nat) (o : Oper) (x : Full) : Prop :=
 ∀ q, q <= ops.size -> (q = 0 \/ ∃ e y, q = e + 1 /\ u[e]? = some y /\ y.k.isEff = true) -> (∀ e y, e < q -> u[e]? = some y -> y.k.isEff = true -> ¬ Reach ops r e) -> (∀ e y, q <= e -> u[e]? = some y -> y.k.isEff = true -> ¬ Reach ops e r) ->
   aread P (aval G x.T) (hAt u Hn q).get o = some x.v
theorem gen_draw (hm : P.follows .mixedOrders = true) (hok : zaD N ops = true) (heff : EffOrd cop ops)
  {T T' : Nat -> AV} {H H' : AHeap} {u : List Full} {Q : Exit -> (Nat -> AV) -> AHeap -> Prop} {id : Nat}
  (hrd : ∀ r x o, u[r]? = some x -> ops[r]? = some o -> x.k.isRead = true -> ReadOrd cop ops r \/ ReadSame P G ops u H' r o x) (htr : Tr P G ops ops.toList T H u T' H') (hb : BOk P G cop true H' ops.toList u H.next) (hQ : Q .normal T' H') : AW P G N (.region id ops true) Q T H := by
 simp only [zaD, Bool.and_eq_true] at hok
 obtain ⟨⟨hback, hslots⟩, hdst⟩ := hok
 have hdst' := dstOk_spec hdst
 have hlen : u.length = ops.size := by rw [tr_length htr]; exact Array.length_toList
 obtain ⟨hH0, hT0, hstep⟩ := tr_spec htr
 have hget : ∀ i, i < ops.size -> ∃ x o, u[i]? = some x /\ ops[i]? = some o := fun i hi => by
  obtain ⟨o, ho⟩ := get_of hi
  exact ⟨u[i]'(by omega), o, List.getElem?_eq_getElem (by omega), ho⟩
 have hlt : ∀ i x, u[i]? = some x -> i < ops.size := fun i x hx => by
  rcases Nat.lt_or_ge i u.length with g | g
  · omega
  · rw [List.getElem?_eq_none g] at hx; simp at hx
 let vAt : Nat -> AV := fun i => match u[i]? with | some y => y.v | none => zaz
 let kAt : Nat -> Kind := fun i => match u[i]? with | some y => y.k | none => .idle
 have kx : ∀ {i x}, u[i]? = some x -> kAt i = x.k := fun {i x} hx => by simp only [kAt, hx]
 have bAt : ∀ {i x o}, u[i]? = some x -> ops[i]? = some o -> _ := fun {i x o} hx ho => BOk.at ops.toList u H.next i x o hb hx (by simpa using ho)
 have mono1 : ∀ i, i < ops.size -> (hAt u H' i).next <= (hAt u H' (i + 1)).next := fun i hi => by
  obtain ⟨x, o, hx, ho⟩ := hget i hi
  have := (hstep i x o hx (by simpa using ho)).2.1
  have e4 : hAt u H' i = x.H := by simp only [hAt, hx]
  rw [e4]; exact this
 have mono : ∀ i j, i <= j -> j <= ops.size -> (hAt u H' i).next <= (hAt u H' j).next := fun i j hij hj => by
  induction j with
  | zero => have : i = 0 := by omega
            subst this; exact Nat.le_refl _
  | succ j ih =>
    by_cases e : i = j + 1
    · subst e; exact Nat.le_refl _
    · exact Nat.le_trans (ih (by omega) (by omega)) (mono1 j (by omega))
 have keep : ∀ i j, i <= j -> j <= ops.size -> (∀ e y, i <= e -> e < j -> u[e]? = some y -> y.k.isEff = false) -> ∀ c, c < (hAt u H' i).next -> (hAt u H' j).get c = (hAt u H' i).get c := fun i j hij hj hno c hc => by
  induction j with
  | zero => have : i = 0 := by omega
            subst this; rfl
  | succ j ih =>
    by_cases e : i = j + 1
    · subst e; rfl
    · obtain ⟨x, o, hx, ho⟩ := hget j (by omega)
      have e4 : hAt u H' j = x.H := by simp only [hAt, hx]
      have hs := (hstep j x o hx (by simpa using ho)).1
      have h1 := ih (by omega) (by omega) (fun e y h1 h2 => hno e y h1 (by omega))
      rw [<- h1, e4]
      refine step_keep hs (hno j x (by omega) (by omega) hx) ?_
      rw [<- e4]
      exact Nat.lt_of_lt_of_le hc (mono i j (by omega) (by omega))
 let R : Run P G N ops :=
  { T := fun i => tAt' u T' i
    H := fun i => hAt u H' i
    v := vAt
    k := kAt
    step := fun i o ho => by
     obtain ⟨x, o', hx, ho'⟩ := hget i (get_lt ho)
     have := (hstep i x o hx (by simpa using ho)).1
     have e1 : tAt' u T' i = x.T := by simp only [tAt', hx]
     have e2 : vAt i = x.v := by simp only [vAt, hx]
     have e3 : kAt i = x.k := kx hx
     have e4 : hAt u H' i = x.H := by simp only [hAt, hx]
     rw [e1, e2, e3, e4]; exact this
    put := fun i o ho => by
     obtain ⟨x, o', hx, ho'⟩ := hget i (get_lt ho)
     have := (hstep i x o hx (by simpa using ho)).2.2
     have e1 : tAt' u T' i = x.T := by simp only [tAt', hx]
     have e2 : vAt i = x.v := by simp only [vAt, hx]
     rw [this, e1, e2]
    dst := hdst'
    mono := mono1
    back := backOk_spec hback
    slots := slotsOk_spec hslots
    effs := fun i j hij hj hk hk' => by
     obtain ⟨x, o, hx, ho⟩ := hget i (by omega)
     obtain ⟨y, q, hy, hq⟩ := hget j hj
     rw [kx hy] at hk
     rw [kx hx] at hk'
     refine heff i j o q hij ho hq ((bAt hy hq).1 hk) ?_
     rcases hk' with h2 | h2
     · exact .inl ((bAt hx ho).1 h2)
     · exact .inr ((bAt hx ho).2.1 h2)
    reads := fun r o ho hk q hq hq0 hlo hhi g0 hg0 _ => by
     refine aread_mono hg0 ?_
     obtain ⟨x, o', hx, ho'⟩ := hget r (get_lt ho)
     rw [ho] at ho'; simp only [Option.some.injEq] at ho'; subst ho'
     have hk : kAt r = .read := hk
     rw [kx hx] at hk
     have hrd' : x.k.isRead = true := by rw [hk]; rfl
     have hxe : x.k.isEff = false := by rw [hk]; rfl
     have e1 : tAt' u T' r = x.T := by simp only [tAt', hx]
     have e2 : vAt r = x.v := by simp only [vAt, hx]
     have e4 : hAt u H' r = x.H := by simp only [hAt, hx]
     have hrl := get_lt ho
     obtain ⟨hR, b', hst', hb'⟩ := (bAt hx ho).2.2 hrd'
     rcases hrd r x o hx ho hrd' with hord | hsame
     case inr =>
      rw [e1, e2]
      refine hsame q hq ?_ (fun e y he hy hye => hlo e he (by show (kAt e).isEff = true; rw [kx hy]; exact hye)) (fun e y he hy hye => hhi e he (hlt e y hy) (by show (kAt e).isEff = true; rw [kx hy]; exact hye))
      rcases hq0 with h | ⟨e, h1, h2⟩
      · exact .inl h
      · have h2 : (kAt e).isEff = true := h2
        obtain ⟨y, o2, hy, _⟩ := hget e (by omega)
        rw [kx hy] at h2
        exact .inr ⟨e, y, h1, hy, h2⟩
     have before : ∀ e y, e < r -> u[e]? = some y -> y.k.isEff = true -> e < q := fun e y he hy hye => by
      rcases Nat.lt_or_ge e q with g | g
      · exact g
      · obtain ⟨y', o2, hy', ho2⟩ := hget e (hlt e y hy)
        have hE := (bAt hy ho2).1 hye
        exact absurd ((hord e o2 ho2 hE).1 he) (hhi e g (hlt e y hy) (by show (kAt e).isEff = true; rw [kx hy]; exact hye))
     have after : ∀ e y, r < e -> u[e]? = some y -> y.k.isEff = true -> q <= e := fun e y he hy hye => by
      rcases Nat.lt_or_ge e q with g | g
      · obtain ⟨y', o2, hy', ho2⟩ := hget e (hlt e y hy)
        have hE := (bAt hy ho2).1 hye
        exact absurd ((hord e o2 ho2 hE).2 he) (hlo e g (by show (kAt e).isEff = true; rw [kx hy]; exact hye))
      · exact g
     have noeff : ∀ e y, e = r -> u[e]? = some y -> y.k.isEff = false := fun e y he hy => by
      subst he
      rw [hx] at hy; simp only [Option.some.injEq] at hy; subst hy
      exact hxe
     have hbq : b' <= (hAt u H' q).next /\ b' <= (hAt u H' r).next := by
      rcases hb' with ⟨rfl, _⟩ | ⟨e, y, he, hy, hye, rfl, _⟩
      · rw [<- hH0]
        exact ⟨mono 0 q (by omega) hq, mono 0 r (by omega) (by omega)⟩
      · exact ⟨mono (e + 1) q (before e y he hy hye) hq, mono (e + 1) r (by omega) (by omega)⟩
     rw [e1, e2]
     refine hst' _ fun c hc => ?_
     rw [<- e4]
     rcases Nat.le_total q r with g | g
     · exact (keep q r g (by omega) (fun e y h1 h2 h3 => by
        cases hh : y.k.isEff with
        | false => rfl
        | true => have := before e y h2 h3 hh; omega) c (by omega)).symm
     · exact keep r q g hq (fun e y h1 h2 h3 => by
        by_cases e0 : e = r
        · exact noeff e y e0 h3
        · cases hh : y.k.isEff with
          | false => rfl
          | true => have := after e y (by omega) h3 hh; omega) c (by omega) }
 have hend1 : tAt' u T' ops.size = T' := by simp only [tAt']; rw [List.getElem?_eq_none (by omega)]
 have hend2 : hAt u H' ops.size = H' := by simp only [hAt]; rw [List.getElem?_eq_none (by omega)]
 refine aw_draw hm R hT0 hH0 ?_
 show Q .normal (tAt' u T' ops.size) (hAt u H' ops.size)
 rw [hend1, hend2]; exact hQ
theorem flags_at {i : Nat} {o : Oper} (ho : ops[i]? = some o) : (ops.toList.map fun o => zay (cop o))[i]? = some (zay (cop o)) := by
 rw [List.getElem?_map]
 have : ops.toList[i]? = some o := by simpa using ho
 rw [this]; rfl
theorem quiet_draw (hm : P.follows .mixedOrders = true) (hok : zaD N ops = true) (hst : statOk (ops.toList.map fun o => zay (cop o)) (ancs ops.toList) = true)
  {T T' : Nat -> AV} {H H' : AHeap} {u : List Full} {Q : Exit -> (Nat -> AV) -> AHeap -> Prop} {id : Nat} (htr : Tr P G ops ops.toList T H u T' H') (hb : BOk P G cop true H' ops.toList u H.next) (hQ : Q .normal T' H') : AW P G N (.region id ops true) Q T H := by
 refine gen_draw hm hok (fun i j o q hij ho hq hE h => statOk_spec hst hij (flags_at ho) (flags_at hq) ?_) (fun r x o hx ho hr => .inl fun e q hq hE => ⟨fun he => statOk_spec hst he (flags_at hq) (flags_at ho) ?_, fun he => statOk_spec hst he (flags_at ho) (flags_at hq) ?_⟩) htr hb hQ
 · rcases h with h | h <;> simp [zay, hE, h]
 · have hR := ((BOk.at ops.toList u H.next r x o hb hx (by simpa using ho)).2.2 hr).1
   simp [zay, hE, hR]
 · have hR := ((BOk.at ops.toList u H.next r x o hb hx (by simpa using ho)).2.2 hr).1
   simp [zay, hE, hR]
end
structure Snp where
 w : Bool
 T : ET
 H : FH
 v : AV
noncomputable def runM (ω : Om) (P : Program) (G : Nat -> Option AV) (l : List FOper) : Nat -> List Snp -> ET -> FH -> (List Snp -> ET -> FH -> Bool) -> Bool :=
 List.rec (motive := fun _ => Nat -> List Snp -> ET -> FH -> (List Snp -> ET -> FH -> Bool) -> Bool) (fun _ s T H k => k s T H)
  (fun fo _ ih base s T H k => FOper.rec (motive := fun _ => Bool) (fun g d e f o =>
    guardK g T (f.run ω P G o base T H fun v H' => v.force fun v => putD d v T fun T' => ih (ifK e H'.next base) (⟨true, T, H, v⟩ :: s) T' H' k) (putD d zaz T fun T' => ih base (⟨false, T, H, zaz⟩ :: s) T' H k)) fo) l
structure SRel (cop : Oper -> FOp) (ops : Array Oper) (o : Oper) (x : Full) (y : Snp) : Prop where
 T : y.T.fn = x.T
 H : y.H.abs = x.H
 v : y.v = x.v
 e : x.k.isEff = (y.w && (cop o).isE)
 r : x.k.isRead = true -> y.w = true
 w : y.w = true -> zap ops x.T o = true
inductive SRels (cop : Oper -> FOp) (ops : Array Oper) : List Oper -> List Full -> List Snp -> Prop
 | nil : SRels cop ops [] [] []
 | cons {o : Oper} {x : Full} {y : Snp} {l : List Oper} {u : List Full} {s : List Snp} (h : SRel cop ops o x y) (t : SRels cop ops l u s) : SRels cop ops (o :: l) (x :: u) (y :: s)
section
variable {ω : Om} {P : Program} {G : Nat -> Option AV} {N : Nat} {ops : Array Oper} {cop : Oper -> FOp}
theorem SRels.length {l : List Oper} {u : List Full} {s : List Snp} (h : SRels cop ops l u s) : u.length = l.length /\ s.length = l.length := by
 induction h with
 | nil => exact ⟨rfl, rfl⟩
 | cons _ _ ih => simp [ih.1, ih.2]
theorem SRels.at {l : List Oper} {u : List Full} {s : List Snp} (h : SRels cop ops l u s) : ∀ {i : Nat} {o : Oper} {x : Full}, l[i]? = some o -> u[i]? = some x -> ∃ y, s[i]? = some y /\ SRel cop ops o x y := by
 induction h with
 | nil => intro i o x h; simp at h
 | cons h _ ih =>
   intro i o x ho hx
   cases i with
   | zero => simp at ho hx; subst ho; subst hx; exact ⟨_, rfl, h⟩
   | succ i => simpa using ih (by simpa using ho) (by simpa using hx)
theorem runM_inv (hω : CopOk P G ω ops cop) (hN : N <= 1024) : ∀ (l : List Oper) (base : Nat) (acc : List Snp) (T : ET) (H : FH) (k : List Snp -> ET -> FH -> Bool), dstOk N l = true -> runM ω P G (l.map (fcoper cop ops true)) base acc T H k = true ->
  ∃ u s T' H', Tr P G ops l T.fn H.abs u T'.fn (FH.abs H') /\ H.next <= H'.next /\ BOk P G cop true H'.abs l u base /\ SRels cop ops l u s /\ k (s.reverse ++ acc) T' H' = true
 | [], base, acc, T, H, k, _, h => ⟨[], [], T, H, .nil, Nat.le_refl _, trivial, .nil, h⟩
 | o :: l, base, acc, T, H, k, hd, h => by
   have h : guardK (fcg ops o) T ((cop o).run ω P G o base T H fun v H' => v.force fun v => putD (fcd o) v T fun T' => runM ω P G (l.map (fcoper cop ops true)) (ifK (true && (cop o).isE) H'.next base) (⟨true, T, H, v⟩ :: acc) T' H' k)
     (putD (fcd o) zaz T fun T' => runM ω P G (l.map (fcoper cop ops true)) base (⟨false, T, H, zaz⟩ :: acc) T' H k) = true := h
   have hd0 : ∀ j, o.dst = some j -> j < N := fun j hj => by
    unfold dstOk at hd
    rw [List.all_cons, Bool.and_eq_true] at hd
    have := hd.1
    rw [hj] at this
    simpa using this
   have hdr : dstOk N l = true := by
    unfold dstOk at hd ⊢
    rw [List.all_cons, Bool.and_eq_true] at hd
    exact hd.2
   rcases guardK_inv h with ⟨hw, h⟩ | ⟨hw, h⟩
   · obtain ⟨v, kd, H1, hs, hn, he, ha, hr0, hr, h⟩ := hω _ _ _ _ _ hw h
     have h := (AV.force_eq v _).symm.trans h
     obtain ⟨T1, hT1, h⟩ := putD_eq hN hd0 h
     obtain ⟨u, s, T', H', htr, hn', hb, hsr, hk⟩ := runM_inv hω hN l _ _ T1 H1 k hdr h
     refine ⟨⟨T.fn, H.abs, v, kd⟩ :: u, ⟨true, T, H, v⟩ :: s, T', H', .cons hs hn (by rw [<- hT1]; exact htr), by omega, ⟨fun h => he ▸ h, ha, fun h => ⟨hr0 ▸ h, hr h⟩, ?_⟩, .cons ⟨rfl, rfl, rfl, by rw [he, Bool.true_and], fun _ => rfl, fun _ => hw⟩ hsr, by simpa using hk⟩
     have h0 : hAt u H'.abs 0 = H1.abs := (tr_spec htr).1
     rw [h0]
     rw [<- he] at hb
     show BOk P G cop true H'.abs l u (if true = true /\ kd.isEff = true then H1.next else base)
     cases hk : kd.isEff <;> rw [hk] at hb <;> exact hb
   · obtain ⟨T1, hT1, h⟩ := putD_eq hN hd0 h
     obtain ⟨u, s, T', H', htr, hn', hb, hsr, hk⟩ := runM_inv hω hN l _ _ T1 H k hdr h
     refine ⟨⟨T.fn, H.abs, zaz, .idle⟩ :: u, ⟨false, T, H, zaz⟩ :: s, T', H', .cons ⟨.inl ⟨hw, rfl⟩, rfl⟩ (Nat.le_refl _) (by rw [<- hT1]; exact htr), hn', ⟨fun h => by simp [Kind.isEff] at h, fun h => by simp [Kind.isAlloc] at h, fun h => by simp [Kind.isRead] at h, ?_⟩,
      .cons ⟨rfl, rfl, rfl, rfl, fun h => by simp [Kind.isRead] at h, fun h => by simp at h⟩ hsr, by simpa using hk⟩
     rw [if_neg (by simp [Kind.isEff])]
     exact hb
def effOk (fs : List Flags) (as_ : List Nat) : Bool :=
 fs.zipIdx.all fun (y, j) => fs.zipIdx.all fun (x, i) => !decide (i < j) || !(y.e && (x.e || x.a)) || (as_.getD j 0).testBit i
theorem effOk_spec {fs : List Flags} (h : effOk fs (ancs ops.toList) = true) (hfs : fs = ops.toList.map fun o => zay (cop o)) : EffOrd cop ops := by
 intro i j o q hij ho hq hE hc
 subst hfs
 unfold effOk at h
 rw [List.all_eq_true] at h
 have := h (_, j) (mem_zipIdx (flags_at hq))
 simp only [List.all_eq_true] at this
 have := this (_, i) (mem_zipIdx (flags_at ho))
 simp only [hij, decide_true, Bool.not_true, Bool.false_or] at this
 have e : ((zay (cop q)).e && ((zay (cop o)).e || (zay (cop o)).a)) = true := by rcases hc with hc | hc <;> simp [zay, hE, hc]
 rw [e] at this
 exact zaA this
def effPl (fs : List Flags) : List Nat := (fs.zipIdx.filter fun (x, _) => x.e).map (·.2)
def softAt (fs : List Flags) (as_ : List Nat) (r : Nat) : Bool := (effPl fs).all fun e => (!decide (e < r) || (as_.getD r 0).testBit e) && (!decide (r < e) || (as_.getD e 0).testBit r)
def hardPl (fs : List Flags) (as_ : List Nat) : List Nat := ((fs.zipIdx.filter fun (x, _) => x.r).map (·.2)).filter fun r => !softAt fs as_ r
def heapS (s : List Snp) (H : FH) (q : Nat) : FH := match s[q]? with
 | some x => x.H
 | none => H
noncomputable def checkR (ω : Om) (P : Program) (G : Nat -> Option AV) (cop : Oper -> FOp) (ops : Array Oper) (es as_ : List Nat) (s : List Snp) (H : FH) (r : Nat) : Bool :=
 match ops[r]?, s[r]? with
 | some o, some x => !x.w || (0 :: es.map (· + 1)).all fun q =>
   (es.any fun e => decide (e < q) && ((match s[e]? with | some y => y.w | none => false) && (as_.getD e 0).testBit r)) || (es.any fun e => decide (q <= e) && ((match s[e]? with | some y => y.w | none => false) && (as_.getD r 0).testBit e)) ||
   (cop o).run ω P G o 1048576 x.T (heapS s H q) fun v _ => AV.beq v x.v
 | _, _ => false
theorem effPl_mem {fs : List Flags} {e : Nat} {x : Flags} (hx : fs[e]? = some x) (he : x.e = true) : e ∈ effPl fs := by
 unfold effPl
 rw [List.mem_map]
 exact ⟨(x, e), by rw [List.mem_filter]; exact ⟨mem_zipIdx hx, he⟩, rfl⟩
theorem effPl_of {fs : List Flags} {e : Nat} (h : e ∈ effPl fs) : ∃ x, fs[e]? = some x /\ x.e = true := by
 unfold effPl at h
 rw [List.mem_map] at h
 obtain ⟨⟨x, i⟩, h1, rfl⟩ := h
 rw [List.mem_filter] at h1
 exact ⟨x, List.mem_zipIdx_iff_getElem?.1 h1.1, h1.2⟩
theorem checked_draw (hm : P.follows .mixedOrders = true) (hω : CopOk P G ω ops cop) (hok : zaD N ops = true) (fs : List Flags) (hfs : fs = ops.toList.map fun o => zay (cop o)) (heff : effOk fs (ancs ops.toList) = true)
  {T T' : Nat -> AV} {H : AHeap} {H' : FH} {u : List Full} {s : List Snp} {Q : Exit -> (Nat -> AV) -> AHeap -> Prop} {id : Nat} (htr : Tr P G ops ops.toList T H u T' H'.abs) (hb : BOk P G cop true H'.abs ops.toList u H.next) (hsr : SRels cop ops ops.toList u s)
  (hck : (hardPl fs (ancs ops.toList)).all (checkR ω P G cop ops (effPl fs) (ancs ops.toList) s H') = true) (hQ : Q .normal T' H'.abs) : AW P G N (.region id ops true) Q T H := by
 refine gen_draw hm hok (effOk_spec heff hfs) (fun r x o hx ho hr => ?_) htr hb hQ
 have hol : ops.toList[r]? = some o := by simpa using ho
 have hR := ((BOk.at ops.toList u H.next r x o hb hx hol).2.2 hr).1
 have hfr : fs[r]? = some (zay (cop o)) := by rw [hfs]; exact flags_at ho
 cases hsoft : softAt fs (ancs ops.toList) r with
 | true =>
   refine .inl fun e q hq hE => ?_
   unfold softAt at hsoft
   rw [List.all_eq_true] at hsoft
   have hfe : fs[e]? = some (zay (cop q)) := by rw [hfs]; exact flags_at hq
   have := hsoft e (effPl_mem hfe hE)
   simp only [Bool.and_eq_true, Bool.or_eq_true, Bool.not_eq_true', decide_eq_false_iff_not] at this
   exact ⟨fun he => zaA (this.1.resolve_left fun h => h he), fun he => zaA (this.2.resolve_left fun h => h he)⟩
 | false =>
   refine .inr fun q hq hq0 hlo hhi => ?_
   have hmem : r ∈ hardPl fs (ancs ops.toList) := by
    unfold hardPl
    rw [List.mem_filter, List.mem_map]
    exact ⟨⟨(zay (cop o), r), by rw [List.mem_filter]; exact ⟨mem_zipIdx hfr, hR⟩, rfl⟩, by simp [hsoft]⟩
   rw [List.all_eq_true] at hck
   have hc := hck r hmem
   obtain ⟨y, hy, hs⟩ := hsr.at hol hx
   unfold checkR at hc
   simp only [ho, hy] at hc
   have hw := hs.r hr
   rw [hw] at hc
   simp only [Bool.not_true, Bool.false_or] at hc
   rw [List.all_eq_true] at hc
   have eff_of : ∀ e y', u[e]? = some y' -> y'.k.isEff = true -> e ∈ effPl fs /\ ∃ z, s[e]? = some z /\ z.w = true := fun e y' hy' hye => by
    have hlt : e < ops.size := by
     have := hsr.length.1
     rcases Nat.lt_or_ge e u.length with g | g
     · simp at this; omega
     · rw [List.getElem?_eq_none g] at hy'; simp at hy'
    obtain ⟨o2, ho2⟩ := get_of hlt
    obtain ⟨z, hz, hzs⟩ := hsr.at (by simpa using ho2) hy'
    have hE := (BOk.at ops.toList u H.next e y' o2 hb hy' (by simpa using ho2)).1 hye
    refine ⟨effPl_mem (x := zay (cop o2)) (by rw [hfs]; exact flags_at ho2) hE, z, hz, ?_⟩
    have := hzs.e
    rw [hye] at this
    cases hzw : z.w
    · rw [hzw] at this; simp at this
    · rfl
   have hqm : q ∈ (0 :: (effPl fs).map (· + 1)) := by
    rcases hq0 with rfl | ⟨e, y', rfl, hy', hye⟩
    · simp
    · exact List.mem_cons_of_mem _ (List.mem_map.2 ⟨e, (eff_of e y' hy' hye).1, rfl⟩)
   have hcq := hc q hqm
   have isEff_of : ∀ e, e ∈ effPl fs -> (match s[e]? with | some y => y.w | none => false) = true -> ∃ y', u[e]? = some y' /\ y'.k.isEff = true := fun e he hwe => by
    obtain ⟨f, hf, hfe⟩ := effPl_of he
    cases hse : s[e]? with
    | none => rw [hse] at hwe; simp at hwe
    | some z =>
      rw [hse] at hwe
      have hlt : e < ops.size := by
       have := hsr.length.2
       rcases Nat.lt_or_ge e s.length with g | g
       · simp at this; omega
       · rw [List.getElem?_eq_none g] at hse; simp at hse
      obtain ⟨o2, ho2⟩ := get_of hlt
      have hul : e < u.length := by have := hsr.length.1; simp at this; omega
      obtain ⟨z', hz', hzs⟩ := hsr.at (i := e) (by simpa using ho2) (List.getElem?_eq_getElem hul)
      rw [hse] at hz'; simp only [Option.some.injEq] at hz'; subst hz'
      refine ⟨_, List.getElem?_eq_getElem hul, ?_⟩
      rw [hzs.e]
      have : (cop o2).isE = true := by
       rw [hfs, flags_at ho2] at hf
       simp only [Option.some.injEq] at hf
       rw [<- hf] at hfe; exact hfe
      simp only at hwe
      rw [hwe, this]; rfl
   simp only [Bool.or_eq_true, List.any_eq_true, Bool.and_eq_true, decide_eq_true_eq] at hcq
   rcases hcq with (⟨e, he, h5, h6, h7⟩ | ⟨e, he, h5, h6, h7⟩) | h5
   · obtain ⟨y', hy', hye⟩ := isEff_of e he h6
     exact absurd (zaA h7) (hlo e y' h5 hy' hye)
   · obtain ⟨y', hy', hye⟩ := isEff_of e he h6
     exact absurd (zaA h7) (hhi e y' h5 hy' hye)
   · have hwn : zap ops y.T.fn o = true := by rw [hs.T]; exact hs.w hw
     obtain ⟨v, kd, H1, _, _, _, _, hr0, hr1, hk⟩ := hω o y.T (heapS s H' q) _ _ hwn h5
     have hkr : kd.isRead = true := by rw [hr0]; exact hR
     have := hr1 hkr (heapS s H' q).abs.get (fun _ _ => rfl)
     have hv : v = y.v := AV.beq_eq _ _ hk
     have hH : (heapS s H' q).abs = hAt u H'.abs q := by
      unfold heapS hAt
      rcases Nat.lt_or_ge q ops.size with g | g
      · obtain ⟨o2, ho2⟩ := get_of g
        have hul : q < u.length := by have := hsr.length.1; simp at this; omega
        obtain ⟨z, hz, hzs⟩ := hsr.at (i := q) (by simpa using ho2) (List.getElem?_eq_getElem hul)
        rw [hz, List.getElem?_eq_getElem hul]
        exact hzs.H
      · rw [List.getElem?_eq_none (by have := hsr.length.2; simp at this; omega), List.getElem?_eq_none (by have := hsr.length.1; simp at this; omega)]
     rw [<- hH, <- hs.T, <- hs.v, <- hv]
     exact this
end
abbrev KC := ET -> FH -> Bool
def regOk (P : Program) (G : Nat -> Option AV) (N : Nat) (ops : Array Oper) : Bool := zaD N ops && statOk (ops.toList.map fun o => zay (fcop P G o)) (ancs ops.toList)
def regOkZ (P : Program) (G : Nat -> Option AV) (N : Nat) (ops : Array Oper) : Bool := zaD N ops && effOk (ops.toList.map fun o => zay (fcopZ P G o)) (ancs ops.toList)
def regOkM (P : Program) (G : Nat -> Option AV) (N : Nat) (ops : Array Oper) : Bool := zaD N ops && effOk (ops.toList.map fun o => zay (fcop P G o)) (ancs ops.toList)
noncomputable def fexec (ω : Om) (P : Program) (G : Nat -> Option AV) (N n : Nat) (c : Code) : KC -> KC -> (Nat -> KC) -> ET -> FH -> Bool :=
 Code.rec (motive := fun _ => KC -> KC -> (Nat -> KC) -> ET -> FH -> Bool)
  (fun kn _ _ T H => kn T H)
  (fun _ ops d kn _ _ T H => ifK d
    (ifK (regOk P G N ops) (runL ω P G (ops.toList.map (fcoper (fcop P G) ops true)) H.next T H kn)
      (ifK (regOkM P G N ops) (runM ω P G (ops.toList.map (fcoper (fcop P G) ops true)) H.next [] T H fun s T H' =>
        ifK ((hardPl (ops.toList.map fun o => zay (fcop P G o)) (ancs ops.toList)).all (checkR ω P G (fcop P G) ops (effPl (ops.toList.map fun o => zay (fcop P G o))) (ancs ops.toList) s.reverse H')) (kn T H') false)
        (ifK (regOkZ P G N ops) (runM ω P G (ops.toList.map (fcoper (fcopZ P G) ops true)) H.next [] T H fun s T H' =>
        ifK ((hardPl (ops.toList.map fun o => zay (fcopZ P G o)) (ancs ops.toList)).all (checkR ω P G (fcopZ P G) ops (effPl (ops.toList.map fun o => zay (fcopZ P G o))) (ancs ops.toList) s.reverse H')) (kn T H') false) false)))
    (ifK (dstOk N ops.toList) (runL ω P G (ops.toList.map (fcoper (fcop P G) ops false)) 1048576 T H kn) false))
  (fun _ _ iha ihb kn kr ke T H => iha (fun T H => ihb kn kr ke T H) kr ke T H)
  (fun x _ _ iha ihb kn kr ke T H => optK (fx G x) fun y => (y.get T).onBool false fun b => ifK b (iha kn kr ke T H) (ihb kn kr ke T H))
  (fun id _ ih kn kr ke T H => ih kn kr (fun i => ifK (Nat.beq i id) kn (ke i)) T H)
  (fun _ ih _ kr ke T H => Nat.rec (motive := fun _ => ET -> FH -> Bool) (fun _ _ => false) (fun _ lp T H => ih lp kr ke T H) n T H)
  (fun _ _ _ _ _ _ _ _ _ _ _ => false)
  (fun id _ _ ke T H => ke id T H)
  (fun _ _ _ _ _ _ _ => false)
  (fun _ _ _ _ _ _ => false)
  (fun _ _ _ _ _ _ => false)
  (fun _ kr _ T H => kr T H)
  (fun _ _ _ _ _ _ => false) c
def contOf (kn kr : KC) (ke : Nat -> KC) : Exit -> KC
 | .normal => kn
 | .ret => kr
 | .exit i => ke i
 | _ => fun _ _ => false
noncomputable def resK (P : Program) (G : Nat -> Option AV) (rs : List ResultVar) (T : ET) (H : FH) : (List AV -> Bool) -> Bool :=
 List.rec (motive := fun _ => (List AV -> Bool) -> Bool) (fun k => k [])
  (fun r _ ih k => ResultVar.rec (motive := fun _ => Bool)
    (fun t => optK (fx G (.tmp t)) fun x => ih fun vs => k (x.get T :: vs))
    (fun a t => optK (fx G (.tmp a)) fun x => optK (aagg P t) fun g => optK (asize P t) fun n => loadK 1048576 g n (x.get T) H fun v _ => v.force fun v => ih fun vs => k (v :: vs)) r) rs
noncomputable def oneK (vs : List AV) (k : AV -> Bool) : Bool := List.rec (motive := fun _ => Bool) (k (.tuple [])) (fun a r _ => List.rec (motive := fun _ => Bool) (k a) (fun _ _ _ => k (.tuple vs)) r) vs
noncomputable def initK (vs : List AV) : Nat -> ET -> (ET -> Bool) -> Bool :=
 List.rec (motive := fun _ => Nat -> ET -> (ET -> Bool) -> Bool) (fun _ T k => k T) (fun v _ ih i T k => ET.put (P32.of (Nat.div i 32)) (P32.of (Nat.mod i 32)) v T fun T => natK (Nat.add i 1) fun i => ih i T k) vs
abbrev Ov := FuncId -> Option (List AV -> FH -> (AV -> FH -> Bool) -> Bool)
noncomputable def fcall (ov : Ov) (P : Program) (G : Nat -> Option AV) (fuel n : Nat) : Om :=
 Nat.rec (motive := fun _ => Om) (fun _ _ _ _ => false) (fun _ ih f args H k =>
  Option.rec (motive := fun _ => Bool)
   (optK (P.funcs[f]?) fun fn => optK fn.body fun c => ifK (Nat.ble (lenN args) fn.ntmps) (ifK (Nat.ble fn.ntmps 1024)
     (initK args 0 ET.none fun T =>
       fexec ih P G fn.ntmps fuel c (fun T H => resK P G fn.results.toList T H fun vs => oneK vs fun v => k v H) (fun T H => resK P G fn.results.toList T H fun vs => oneK vs fun v => k v H) (fun _ _ _ => false) T H) false) false)
   (fun g => g args H k) (ov f)) n
section
variable {ω : Om} {P : Program} {G : Nat -> Option AV} {N : Nat}
theorem fexec_sound (hm : P.follows .mixedOrders = true) (hω : GoodK P G ω) (hN : N <= 1024) (n : Nat) : ∀ (c : Code) (kn kr : KC) (ke : Nat -> KC) (T : ET) (H : FH), fexec ω P G N n c kn kr ke T H = true ->
  ∃ e T' H', (∀ Q : Exit -> (Nat -> AV) -> AHeap -> Prop, Q e (ET.fn T') (FH.abs H') -> AW P G N c Q T.fn H.abs) /\ H.next <= H'.next /\ contOf kn kr ke e T' H' = true := by
 intro c
 induction c with
 | skip => exact fun kn kr ke T H h => ⟨.normal, T, H, fun Q hQ => aw_skip hQ, Nat.le_refl _, h⟩
 | region id ops d =>
   intro kn kr ke T H h
   cases d with
   | true =>
     have h : ifK (regOk P G N ops) (runL ω P G (ops.toList.map (fcoper (fcop P G) ops true)) H.next T H kn)
      (ifK (regOkM P G N ops) (runM ω P G (ops.toList.map (fcoper (fcop P G) ops true)) H.next [] T H fun s T H' =>
        ifK ((hardPl (ops.toList.map fun o => zay (fcop P G o)) (ancs ops.toList)).all (checkR ω P G (fcop P G) ops (effPl (ops.toList.map fun o => zay (fcop P G o))) (ancs ops.toList) s.reverse H')) (kn T H') false)
        (ifK (regOkZ P G N ops) (runM ω P G (ops.toList.map (fcoper (fcopZ P G) ops true)) H.next [] T H fun s T H' =>
        ifK ((hardPl (ops.toList.map fun o => zay (fcopZ P G o)) (ancs ops.toList)).all (checkR ω P G (fcopZ P G) ops (effPl (ops.toList.map fun o => zay (fcopZ P G o))) (ancs ops.toList) s.reverse H')) (kn T H') false) false)) = true := h
     cases hrg : regOk P G N ops with
     | true =>
       rw [hrg, ifK_true] at h
       simp only [regOk, Bool.and_eq_true] at hrg
       have hd : dstOk N ops.toList = true := by
        have := hrg.1
        simp only [zaD, Bool.and_eq_true] at this
        exact this.2
       obtain ⟨u, T', H', htr, hn, hb, hk⟩ := runL_inv (copOk hω) hN true ops.toList _ T H kn hd h
       exact ⟨.normal, T', H', fun Q hQ => quiet_draw hm hrg.1 hrg.2 htr hb hQ, hn, hk⟩
     | false =>
       rw [hrg, zaI] at h
       cases hrm : regOkM P G N ops with
       | true =>
         rw [hrm, ifK_true] at h
         have h1 := hrm
         simp only [regOkM, Bool.and_eq_true] at h1
         have hd : dstOk N ops.toList = true := by
          have := h1.1
          simp only [zaD, Bool.and_eq_true] at this
          exact this.2
         obtain ⟨u, s, T', H', htr, hn, hb, hsr, hk⟩ := runM_inv (copOk hω) hN ops.toList _ [] T H _ hd h
         obtain ⟨h2, h3⟩ := zah hk
         simp only [List.append_nil, List.reverse_reverse] at h2
         exact ⟨.normal, T', H', fun Q hQ => checked_draw hm (copOk hω) h1.1 _ rfl h1.2 htr hb hsr h2 hQ, hn, h3⟩
       | false =>
         rw [hrm, zaI] at h
         obtain ⟨h1, h⟩ := zah h
         simp only [regOkZ, Bool.and_eq_true] at h1
         have hd : dstOk N ops.toList = true := by
          have := h1.1
          simp only [zaD, Bool.and_eq_true] at this
          exact this.2
         obtain ⟨u, s, T', H', htr, hn, hb, hsr, hk⟩ := runM_inv (copZOk hω) hN ops.toList _ [] T H _ hd h
         obtain ⟨h2, h3⟩ := zah hk
         simp only [List.append_nil, List.reverse_reverse] at h2
         exact ⟨.normal, T', H', fun Q hQ => checked_draw hm (copZOk hω) h1.1 _ rfl h1.2 htr hb hsr h2 hQ, hn, h3⟩
   | false =>
     have h : ifK (dstOk N ops.toList) (runL ω P G (ops.toList.map (fcoper (fcop P G) ops false)) 1048576 T H kn) false = true := h
     obtain ⟨h1, h⟩ := zah h
     obtain ⟨u, T', H', htr, hn, hb, hk⟩ := runL_inv (copOk hω) hN false ops.toList _ T H kn h1 h
     exact ⟨.normal, T', H', fun Q hQ => aw_region (tr_al htr h1 hQ), hn, hk⟩
 | seq a b iha ihb =>
   intro kn kr ke T H h
   obtain ⟨e, T1, H1, h1, h2, h3⟩ := iha (fun T H => fexec ω P G N n b kn kr ke T H) kr ke T H h
   cases e with
   | normal =>
     obtain ⟨e', T2, H2, g1, g2, g3⟩ := ihb kn kr ke T1 H1 h3
     exact ⟨e', T2, H2, fun Q hQ => aw_seq (h1 (QThen (fun T H => AW P G N b Q T H) Q) (g1 Q hQ)), by omega, g3⟩
   | exit i => exact ⟨.exit i, T1, H1, fun Q hQ => aw_seq (h1 (QThen (fun T H => AW P G N b Q T H) Q) hQ), h2, h3⟩
   | ret => exact ⟨.ret, T1, H1, fun Q hQ => aw_seq (h1 (QThen (fun T H => AW P G N b Q T H) Q) hQ), h2, h3⟩
   | goto _ => simp [contOf] at h3
   | panic _ => simp [contOf] at h3
   | outgrown => simp [contOf] at h3
 | cond x a b iha ihb =>
   intro kn kr ke T H h
   obtain ⟨y, hy, h⟩ := optK_inv (show optK (fx G x) (fun y => (y.get T).onBool false fun b' => ifK b' (fexec ω P G N n a kn kr ke T H) (fexec ω P G N n b kn kr ke T H)) = true from h)
   rcases AV.onBool_inv h with ⟨t, ht, h⟩ | ⟨h, _⟩
   · have hx : aval G T.fn x = some (.bool t) := by rw [fx_eq hy, ht]
     cases t with
     | true =>
       obtain ⟨e, T1, H1, h1, h2, h3⟩ := iha kn kr ke T H h
       exact ⟨e, T1, H1, fun Q hQ => aw_cond hx (h1 Q hQ), h2, h3⟩
     | false =>
       obtain ⟨e, T1, H1, h1, h2, h3⟩ := ihb kn kr ke T H h
       exact ⟨e, T1, H1, fun Q hQ => aw_cond hx (h1 Q hQ), h2, h3⟩
   · simp at h
 | block id c ih =>
   intro kn kr ke T H h
   obtain ⟨e, T1, H1, h1, h2, h3⟩ := ih kn kr (fun i => ifK (Nat.beq i id) kn (ke i)) T H h
   cases e with
   | exit i =>
     have h3 : ifK (Nat.beq i id) kn (ke i) T1 H1 = true := h3
     cases hb : Nat.beq i id with
     | true =>
       rw [hb] at h3
       have hid : i = id := by simpa using hb
       exact ⟨.normal, T1, H1, fun Q hQ => aw_block (h1 (QBlock id Q) (by simp only [QBlock]; rw [if_pos hid]; exact hQ)), h2, h3⟩
     | false =>
       rw [hb] at h3
       have hid : ¬ i = id := fun e => by subst e; simp at hb
       exact ⟨.exit i, T1, H1, fun Q hQ => aw_block (h1 (QBlock id Q) (by simp only [QBlock]; rw [if_neg hid]; exact hQ)), h2, h3⟩
   | normal => exact ⟨.normal, T1, H1, fun Q hQ => aw_block (h1 (QBlock id Q) hQ), h2, h3⟩
   | ret => exact ⟨.ret, T1, H1, fun Q hQ => aw_block (h1 (QBlock id Q) hQ), h2, h3⟩
   | goto _ => simp [contOf] at h3
   | panic _ => simp [contOf] at h3
   | outgrown => simp [contOf] at h3
 | loop c ih =>
   intro kn kr ke T H h
   have key : ∀ (m : Nat) (T : ET) (H : FH), Nat.rec (motive := fun _ => ET -> FH -> Bool) (fun _ _ => false) (fun _ lp T H => fexec ω P G N n c lp kr ke T H) m T H = true ->
     ∃ e T' H', e ≠ Exit.normal /\ H.next <= H'.next /\ contOf kn kr ke e T' H' = true /\
       ∀ (Q : Exit -> (Nat -> AV) -> AHeap -> Prop) (E0 : Env) (a : Act) (w : World) b k cs, Q e (ET.fn T') (FH.abs H') -> GRel E0 G -> St E0 N T.fn H.abs a w ->
         ∃ e a' w', lift Q E0 N e a' w' /\ Arrives P (lone (b.at a (.code c :: .inLoop c :: k)) cs w) b k cs e a' w' := by
    intro m
    induction m with
    | zero => intro T H h; simp at h
    | succ m ihm =>
      intro T H h
      obtain ⟨e, T1, H1, h1, h2, h3⟩ := ih _ kr ke T H h
      have pass : e ≠ .normal -> contOf kn kr ke e T1 H1 = true -> (∀ i, e ≠ .goto i) -> ∃ e T' H', e ≠ Exit.normal /\ H.next <= H'.next /\ contOf kn kr ke e T' H' = true /\
       ∀ (Q : Exit -> (Nat -> AV) -> AHeap -> Prop) (E0 : Env) (a : Act) (w : World) b k cs, Q e (ET.fn T') (FH.abs H') -> GRel E0 G -> St E0 N T.fn H.abs a w ->
         ∃ e a' w', lift Q E0 N e a' w' /\ Arrives P (lone (b.at a (.code c :: .inLoop c :: k)) cs w) b k cs e a' w' := by
       intro hne hk hng
       refine ⟨e, T1, H1, hne, h2, hk, fun Q E0 a w b k cs hQ hG hs => ?_⟩
       obtain ⟨e2, a1, w1, ⟨T2, H2, ⟨rfl, rfl, rfl⟩, s⟩, harr⟩ := h1 (fun e' T' H' => e' = e /\ T' = T1.fn /\ H' = H1.abs) ⟨rfl, rfl, rfl⟩ E0 a w hG hs b (.inLoop c :: k) cs
       cases e2 with
       | normal => exact absurd rfl hne
       | exit i => exact ⟨_, a1, w1, ⟨_, _, hQ, s⟩, .pass (x := .inLoop c) rfl (fun _ _ => .inl (by simp)) harr⟩
       | ret => exact ⟨_, a1, w1, ⟨_, _, hQ, s⟩, .pass (x := .inLoop c) rfl (fun _ _ => .inl (by simp)) harr⟩
       | goto l => exact absurd rfl (hng l)
       | panic _ => exact ⟨_, a1, w1, ⟨_, _, hQ, s⟩, .pass (x := .inLoop c) rfl (fun _ _ => .inl (by simp)) harr⟩
       | outgrown => exact ⟨_, a1, w1, ⟨_, _, hQ, s⟩, .pass (x := .inLoop c) rfl (fun _ _ => .inl (by simp)) harr⟩
      cases e with
      | normal =>
        obtain ⟨e2, T2, H2, g1, g2, g3, g4⟩ := ihm T1 H1 h3
        refine ⟨e2, T2, H2, g1, by omega, g3, fun Q E0 a w b k cs hQ hG hs => ?_⟩
        obtain ⟨e3, a1, w1, ⟨T3, H3, ⟨rfl, rfl, rfl⟩, s⟩, harr⟩ := h1 (fun e' T' H' => e' = .normal /\ T' = T1.fn /\ H' = H1.abs) ⟨rfl, rfl, rfl⟩ E0 a w hG hs b (.inLoop c :: k) cs
        obtain ⟨e4, a2, w2, q2, harr2⟩ := g4 Q E0 a1 w1 b k cs hQ hG s
        exact ⟨e4, a2, w2, q2, .of_steps (Steps.trans harr (.one step_inLoop)) harr2⟩
      | exit i => exact pass (by simp) h3 (by simp)
      | ret => exact pass (by simp) h3 (by simp)
      | goto _ => simp [contOf] at h3
      | panic _ => simp [contOf] at h3
      | outgrown => simp [contOf] at h3
   obtain ⟨e, T', H', h1, h2, h3, h4⟩ := key n T H h
   refine ⟨e, T', H', fun Q hQ E0 a w hG hs b k cs => ?_, h2, h3⟩
   obtain ⟨e2, a', w', hq, harr⟩ := h4 Q E0 a w b k cs hQ hG hs
   exact ⟨e2, a', w', hq, .of_steps (.one step_loop) harr⟩
 | exit id => exact fun kn kr ke T H h => ⟨.exit id, T, H, fun Q hQ => aw_exit hQ, Nat.le_refl _, h⟩
 | ret => exact fun kn kr ke T H h => ⟨.ret, T, H, fun Q hQ => aw_ret hQ, Nat.le_refl _, h⟩
 | rangeFunc _ _ _ _ _ _ => intro kn kr ke T H h; have h : false = true := h; simp at h
 | scope _ _ => intro kn kr ke T H h; have h : false = true := h; simp at h
 | label _ => intro kn kr ke T H h; have h : false = true := h; simp at h
 | goto _ => intro kn kr ke T H h; have h : false = true := h; simp at h
 | refuse _ => intro kn kr ke T H h; have h : false = true := h; simp at h
theorem loadK_inv {g : Bool} {n : Nat} {a : AV} {t : TypeId} {H : FH} {k : AV -> FH -> Bool} (hg : aagg P t = some g) (hn : asize P t = some n) (h : loadK 1048576 g n a H k = true) :
  ∃ cs v, aat H.abs.get a = some cs /\ acut P t cs = some v /\ k v H = true := by
 rcases AV.onPtr_inv h with ⟨i, off, rfl, h⟩ | ⟨cs, rfl, h⟩
 · obtain ⟨h1, h'⟩ := zah h
   obtain ⟨b, hb, h', _⟩ := FH.atK_inv h'
   have hb : H.abs.get i = some (.cells b.list) := hb
   cases g with
   | true =>
     obtain ⟨h2, h3⟩ := FObj.cutK_inv (show b.cutK off n (fun l => k (.agg l) H) false = true from h')
     refine ⟨b.list.drop off, .agg ((b.list.drop off).take n), by simp only [aat, hb]; rw [if_pos (by omega)], ?_, h3⟩
     simp only [acut, hg, hn]
     rw [if_pos (by simp; omega)]
   | false =>
     obtain ⟨v, h2, h3⟩ := FObj.cellK_inv (show b.cellK off (fun v => k v H) false = true from h')
     have hlt : off < b.list.length := by
      rcases Nat.lt_or_ge off b.list.length with g | g
      · exact g
      · rw [List.getElem?_eq_none g] at h2; simp at h2
     refine ⟨b.list.drop off, v, by simp only [aat, hb]; rw [if_pos (by omega)], ?_, h3⟩
     simp only [acut, hg, hn]
     rw [List.getElem?_drop, Nat.add_zero]; exact h2
 · cases g with
   | true =>
     have h' : takeK cs n (fun l => k (.agg l) H) false = true := h
     rw [takeK_eq] at h'
     split at h' <;> try (simp at h'; done)
     rename_i h2
     exact ⟨cs, .agg (cs.take n), rfl, by simp only [acut, hg, hn, if_pos h2], h'⟩
   | false =>
     have h' : nthK cs 0 (fun v => k v H) false = true := h
     rw [nthK_eq] at h'
     split at h' <;> try (simp at h'; done)
     rename_i v hc
     exact ⟨cs, v, rfl, by simp only [acut, hg, hn, hc], h'⟩
theorem resK_inv {T : ET} {H : FH} : ∀ {rs : List ResultVar} {k : List AV -> Bool}, resK P G rs T H k = true -> ∃ vs, aresults P T.fn H.abs.get rs = some vs /\ k vs = true
 | [], k, h => ⟨[], rfl, h⟩
 | .tmp t :: rs, k, h => by
   obtain ⟨x, hx, h⟩ := optK_inv (show optK (fx G (.tmp t)) (fun x => resK P G rs T H fun vs => k (x.get T :: vs)) = true from h)
   obtain ⟨vs, h1, h2⟩ := resK_inv h
   have hv : some (T.fn t) = some (x.get T) := fx_eq (G := G) (x := .tmp t) hx
   simp only [Option.some.injEq] at hv
   exact ⟨x.get T :: vs, by simp only [aresults, aresult, h1, hv], h2⟩
 | .cell a t :: rs, k, h => by
   obtain ⟨x, hx, h⟩ := optK_inv (show optK (fx G (.tmp a)) (fun x => optK (aagg P t) fun g => optK (asize P t) fun n => loadK 1048576 g n (x.get T) H fun v _ => v.force fun v => resK P G rs T H fun vs => k (v :: vs)) = true from h)
   obtain ⟨g, hg, h⟩ := optK_inv h
   obtain ⟨n, hn, h⟩ := optK_inv h
   obtain ⟨cs, v, h1, h2, h⟩ := loadK_inv hg hn h
   have h := (AV.force_eq v (fun v => resK P G rs T H fun vs => k (v :: vs))).symm.trans h
   obtain ⟨vs, h3, h4⟩ := resK_inv h
   have hv : some (T.fn a) = some (x.get T) := fx_eq (G := G) (x := .tmp a) hx
   simp only [Option.some.injEq] at hv
   exact ⟨v :: vs, by simp only [aresults, aresult, hv, h1, h2, h3], h4⟩
theorem oneK_inv {T : Nat -> AV} {get : Nat -> Option AObj} {rs : List ResultVar} {vs : List AV} {k : AV -> Bool} (hv : aresults P T get rs = some vs) (h : oneK vs k = true) : ∃ r, ares P T get rs = some r /\ k r = true := by
 match vs with
 | [] => exact ⟨.tuple [], by simp only [ares, hv], h⟩
 | [a] => exact ⟨a, by simp only [ares, hv], h⟩
 | a :: b :: r => exact ⟨.tuple (a :: b :: r), by simp only [ares, hv], h⟩
theorem initK_inv : ∀ (vs : List AV) (i : Nat) (T : ET) (k : ET -> Bool), i + vs.length <= 1024 -> initK vs i T k = true -> ∃ T' : ET, (T'.fn = fun t => if i <= t then (match vs[t - i]? with | some v => v | none => T.fn t) else T.fn t) /\ k T' = true
 | [], i, T, k, _, h => ⟨T, by funext t; simp, h⟩
 | v :: vs, i, T, k, hl, h => by
   simp only [List.length_cons] at hl
   have h : ET.put (P32.of (Nat.div i 32)) (P32.of (Nat.mod i 32)) v T (fun T => natK (Nat.add i 1) fun i => initK vs i T k) = true := h
   rw [ET.put_eq, za5] at h
   obtain ⟨T', h1, h2⟩ := initK_inv vs (i + 1) _ k (by omega) h
   refine ⟨T', ?_, h2⟩
   rw [h1]
   have e : ET.fn (ET.set T (P32.of (Nat.div i 32)) (P32.of (Nat.mod i 32)) v) = tput T.fn (some i) v := ET.fn_set T i v (by omega)
   rw [e]
   funext t
   by_cases h3 : i + 1 <= t
   · have hp : tput T.fn (some i) v t = T.fn t := by simp only [tput]; rw [if_neg (by omega)]
     rw [if_pos h3, if_pos (by omega), hp]
     have : t - i = (t - (i + 1)) + 1 := by omega
     rw [this, List.getElem?_cons_succ]
   · rw [if_neg h3]
     simp only [tput]
     by_cases h4 : t = i
     · subst h4; simp
     · rw [if_neg h4, if_neg (by omega)]
def zaW (P : Program) (G : Nat -> Option AV) (ov : Ov) : Prop :=
 ∀ f g, ov f = some g -> ∀ args H k, g args H k = true -> ∃ v H', Does P G f args H.abs (fun r h => r = v /\ h = FH.abs H') /\ H.next <= H'.next /\ k v H' = true
theorem fcall_sound {ov : Ov} {fuel : Nat} (hm : P.follows .mixedOrders = true) (hp : plainFn P = true) (hov : zaW P G ov) : ∀ n, GoodK P G (fcall ov P G fuel n)
 | 0 => fun f args H k h => by have h : false = true := h; simp at h
 | n + 1 => fun f args H k h => by
   have ih := fcall_sound (fuel := fuel) hm hp hov n
   have h : Option.rec (motive := fun _ => Bool)
    (optK (P.funcs[f]?) fun fn => optK fn.body fun c => ifK (Nat.ble (lenN args) fn.ntmps) (ifK (Nat.ble fn.ntmps 1024)
      (initK args 0 ET.none fun T =>
        fexec (fcall ov P G fuel n) P G fn.ntmps fuel c (fun T H => resK P G fn.results.toList T H fun vs => oneK vs fun v => k v H) (fun T H => resK P G fn.results.toList T H fun vs => oneK vs fun v => k v H) (fun _ _ _ => false) T H) false) false)
    (fun g => g args H k) (ov f) = true := h
   cases ho : ov f with
   | some g => rw [ho] at h; exact hov f g ho args H k h
   | none =>
     rw [ho] at h
     obtain ⟨fn, hf, h⟩ := optK_inv h
     obtain ⟨c, hb, h⟩ := optK_inv h
     obtain ⟨h1, h⟩ := zah h
     obtain ⟨h2, h⟩ := zah h
     have h1 : lenN args <= fn.ntmps := Nat.le_of_ble_eq_true h1
     rw [zaE] at h1
     have h2 : fn.ntmps <= 1024 := Nat.le_of_ble_eq_true h2
     obtain ⟨T, hT, h⟩ := initK_inv args 0 ET.none _ (by omega) h
     obtain ⟨e, T', H', g1, g2, g3⟩ := fexec_sound hm ih h2 fuel c _ _ _ T H h
     have hT0 : T.fn = fun t => args.getD t zaz := by
      rw [hT]
      funext t
      rw [if_pos (Nat.zero_le _), Nat.sub_zero, ET.fn_none, List.getD]
      cases args[t]? <;> rfl
     have fin : (e = .normal \/ e = .ret) -> resK P G fn.results.toList T' H' (fun vs => oneK vs fun v => k v H') = true -> ∃ v H', Does P G f args H.abs (fun r h => r = v /\ h = FH.abs H') /\ H.next <= H'.next /\ k v H' = true := by
      intro he hr
      obtain ⟨vs, r1, r2⟩ := resK_inv hr
      obtain ⟨r, r3, r4⟩ := oneK_inv r1 r2
      refine ⟨r, H', does_of (enters_of hp hf hb) hf hb h1 ?_, g2, r4⟩
      rw [<- hT0]
      exact g1 _ ⟨he, r, r3, rfl, rfl⟩
     cases e with
     | normal => exact fin (.inl rfl) g3
     | ret => exact fin (.inr rfl) g3
     | exit _ => simp [contOf] at g3
     | goto _ => simp [contOf] at g3
     | panic _ => simp [contOf] at g3
     | outgrown => simp [contOf] at g3
end
def noOv : Ov := fun _ => none
theorem noOv_good (P : Program) (G : Nat -> Option AV) : zaW P G noOv := fun _ _ h => by simp [noOv] at h
def zaw {α : Type} : List (Option α) -> Option (List α)
 | [] => some []
 | none :: _ => none
 | some a :: l => (zaw l).map (a :: ·)
def AV.res (get : Nat -> Option AObj) : Nat -> AV -> Option AV
 | 0, _ => none
 | n + 1, v => match v with
   | .ptr i o => match get i with
     | some (.cells cs) => (zaw ((cs.drop o).map (AV.res get n))).map .vptr
     | _ => none
   | .sl i o z len _ _ => match get i with
     | some (.cells cs) => (zaw (((cs.drop o).take (len * z)).map (AV.res get n))).map (.vsl · len)
     | _ => none
   | .vptr cs => (zaw (cs.map (AV.res get n))).map .vptr
   | .vsl cs len => (zaw (cs.map (AV.res get n))).map (.vsl · len)
   | .func f a b => match zaw (a.map (AV.res get n)), zaw (b.map (AV.res get n)) with
     | some a, some b => some (.func f a b)
     | _, _ => none
   | .iface t v => (AV.res get n v).map (.iface t)
   | .agg cs => (zaw (cs.map (AV.res get n))).map .agg
   | .tuple cs => (zaw (cs.map (AV.res get n))).map .tuple
   | .map _ => none
   | v => some v
def Env.all (E : Env) (w : World) : Env := { E with K := fun B => match E.F B with | some _ => none | none => w.heap[B]? }
theorem all_ext {E : Env} {H : AHeap} {w : World} (hR : Rel E H w) : Ext E (E.all w) := by
 refine ⟨fun _ _ h => h, fun B o hB => ?_, rfl, rfl, rfl⟩
 have hF : E.F B = none := by
  rcases hR.KF B with e | e
  · rw [hB] at e; simp at e
  · exact e
 show (match E.F B with | some _ => none | none => w.heap[B]?) = some o
 rw [hF]; exact hR.K B o hB
theorem all_rel {E : Env} {H : AHeap} {w : World} (hR : Rel E H w) : Rel (E.all w) (AHeap.empty H.next) w := by
 refine ⟨hR.os, hR.out, fun B o hB => ?_, hR.F, fun B => ?_, hR.dom, fun i x hi => by simp [AHeap.empty] at hi, fun i j x y p q hi => by simp [AHeap.empty] at hi⟩
 · have hB : (match E.F B with | some _ => none | none => w.heap[B]?) = some o := hB
   split at hB
   · simp at hB
   · exact hB
 · cases hF : E.F B with
   | none => exact .inr hF
   | some o =>
     left
     show (match E.F B with | some _ => none | none => w.heap[B]?) = none
     rw [hF]
theorem live_ink {E : Env} {H : AHeap} {w : World} (hR : Rel E H w) {i : Nat} {cs : List AV} {p : Place} (hi : H.get i = some (.cells cs)) (hp : E.φ i = some p) (o : Nat) :
  ∃ vs, InK (E.all w) p.b (p.s + o) vs /\ VRels E (cs.drop o) vs := by
 obtain ⟨q, ob, h1, h2, h3, h4, c, e, fz, vs, rfl, _, h6, h7, _⟩ := hR.live i _ hi
 rw [hp] at h1; cases h1
 refine ⟨vs.drop o, .inr ⟨c, e, fz, ?_, ?_⟩, h6.drop o⟩
 · show (match E.F p.b with | some _ => none | none => w.heap[p.b]?) = _
   rw [h3]; exact h4
 · obtain ⟨t, ht⟩ := h7
   rw [<- List.drop_drop, <- ht]
   by_cases ho : o <= vs.length
   · rw [List.drop_append_of_le_length ho]; exact List.prefix_append _ _
   · rw [List.drop_of_length_le (by omega)]; exact List.nil_prefix
theorem za3 {E' : Env} {E : Env} {get : Nat -> Option AObj} {n : Nat} (ih : ∀ v u r, VRel E v u -> v.res get n = some r -> VRel E' r u) : ∀ {vs us rs}, VRels E vs us -> zaw (vs.map (AV.res get n)) = some rs -> VRels E' rs us
 | [], us, rs, h, hr => by
   cases h
   simp [zaw] at hr; subst hr; exact .nil
 | v :: vs, us, rs, h, hr => by
   cases h with
   | cons h t =>
     simp only [List.map_cons] at hr
     cases hv : AV.res get n v with
     | none => rw [hv] at hr; simp [zaw] at hr
     | some a =>
       rw [hv] at hr
       simp only [zaw, Option.map_eq_some_iff] at hr
       obtain ⟨l, hl, rfl⟩ := hr
       exact .cons (ih _ _ _ h hv) (za3 ih t hl)
theorem VRel.res {E : Env} {H : AHeap} {w : World} (hR : Rel E H w) : ∀ (n : Nat) (v : AV) (u : Value) (r : AV), VRel E v u -> v.res H.get n = some r -> VRel (E.all w) r u
 | 0, v, u, r, _, hr => by simp [AV.res] at hr
 | n + 1, v, u, r, h, hr => by
   have ih := VRel.res hR n
   have hk := (all_ext hR).knows
   cases h with
   | bool b => simp [AV.res] at hr; subst hr; exact .bool b
   | int k m => simp [AV.res] at hr; subst hr; exact .int k m
   | str s => simp [AV.res] at hr; subst hr; exact .str s
   | nilptr => simp [AV.res] at hr; subst hr; exact .nilptr
   | nilsl => simp [AV.res] at hr; subst hr; exact .nilsl
   | nilmap => simp [AV.res] at hr; subst hr; exact .nilmap
   | nilfunc => simp [AV.res] at hr; subst hr; exact .nilfunc
   | niliface => simp [AV.res] at hr; subst hr; exact .niliface
   | map h => simp [AV.res] at hr
   | csl hK hv => simp [AV.res] at hr; subst hr; exact .csl (hK.mono hk) (VRels.mono hk hv)
   | vsl0 => simp [AV.res, zaw] at hr; subst hr; exact .vsl0
   | @ptr i o p h =>
     simp only [AV.res] at hr
     split at hr <;> try (simp at hr; done)
     rename_i cs hi
     simp only [Option.map_eq_some_iff] at hr
     obtain ⟨rs, hr, rfl⟩ := hr
     obtain ⟨vs, h1, h2⟩ := live_ink hR hi h o
     exact .vptr h1 (za3 ih h2 hr)
   | @sl i o z len cap c' opn p h hl hc ho hn =>
     simp only [AV.res] at hr
     split at hr <;> try (simp at hr; done)
     rename_i cs hi
     simp only [Option.map_eq_some_iff] at hr
     obtain ⟨rs, hr, rfl⟩ := hr
     obtain ⟨vs, h1, h2⟩ := live_ink hR hi h o
     refine .vsl (vs := vs.take (len * z)) ?_ (za3 ih (h2.take _) hr) (Nat.le_trans hl hc)
     rcases h1 with h1 | ⟨c, e, f, g1, g2⟩
     · left; rw [h1]; simp
     · exact .inr ⟨c, e, f, g1, (List.take_prefix _ _).trans g2⟩
   | vptr hK hv =>
     simp only [AV.res, Option.map_eq_some_iff] at hr
     obtain ⟨rs, hr, rfl⟩ := hr
     exact .vptr (hK.mono hk) (za3 ih hv hr)
   | vsl hK hv hl =>
     simp only [AV.res, Option.map_eq_some_iff] at hr
     obtain ⟨rs, hr, rfl⟩ := hr
     exact .vsl (hK.mono hk) (za3 ih hv hr) hl
   | func hf hc =>
     simp only [AV.res] at hr
     split at hr <;> try (simp at hr; done)
     rename_i a b ha hb
     simp only [Option.some.injEq] at hr; subst hr
     exact .func (za3 ih hf ha) (za3 ih hc hb)
   | iface h =>
     simp only [AV.res, Option.map_eq_some_iff] at hr
     obtain ⟨rs, hr, rfl⟩ := hr
     exact .iface (ih _ _ _ h hr)
   | agg h =>
     simp only [AV.res, Option.map_eq_some_iff] at hr
     obtain ⟨rs, hr, rfl⟩ := hr
     exact .agg (za3 ih h hr)
   | tuple h =>
     simp only [AV.res, Option.map_eq_some_iff] at hr
     obtain ⟨rs, hr, rfl⟩ := hr
     exact .tuple (za3 ih h hr)
theorem Ghost.res {n m : Nat} {v r : AV} {H : AHeap} (h : v.res H.get m = some r) : Ghost n v H r (AHeap.empty H.next) := fun _ _ _ _ _ hx hv hR => ⟨_, hx.trans (all_ext hR), VRel.res hR _ _ _ _ hv h, all_rel hR⟩
noncomputable def litK (lit : AV) (v : AV) (H : FH) : Bool := match v.res H.abs.get 1000 with
 | some r => r.beq lit
 | none => false
theorem zaR {P : Program} {G : Nat -> Option AV} {ov : Ov} {f : FuncId} {fuel n : Nat} {args : List AV} {lit : AV} (hm : P.follows .mixedOrders = true) (hp : plainFn P = true) (hov : zaW P G ov) (hG : ∀ g a, G g = some a -> a.idLt 0 = true)
  (ha : AV.allLt 0 args = true) (hl : lit.idLt 0 = true) (h : fcall ov P G fuel n f args FH.empty (litK lit) = true) (H : AHeap) : Does P G f args H fun r h => r = lit /\ h = H := by
 obtain ⟨v, H', hd, _, hk⟩ := fcall_sound hm hp hov n f args FH.empty _ h
 rw [FH.abs_empty] at hd
 unfold litK at hk
 split at hk <;> try (simp at hk; done)
 rename_i r hr
 have hk := AV.beq_eq _ _ hk
 subst hk
 have h1 : Does P G f args (AHeap.empty 0) fun x _ => x = r := hd.ghost fun x h ⟨h1, h2⟩ => ⟨r, AHeap.empty H'.abs.next, by subst h1; subst h2; exact Ghost.res hr, rfl⟩
 exact (h1.frame ha hG (fun x _ hx => by rw [hx]; exact hl) H).mono fun x h ⟨⟨_, h2⟩, h3⟩ => ⟨h2, h3⟩
noncomputable def litOv (tab : List (List AV × AV)) (args : List AV) (H : FH) (k : AV -> FH -> Bool) : Bool :=
 List.rec (motive := fun _ => Bool) false (fun e _ ih => ifK (AV.beqs e.1 args) (k e.2 H) ih) tab
theorem litOv_inv {args : List AV} {H : FH} {k : AV -> FH -> Bool} : ∀ {tab : List (List AV × AV)}, litOv tab args H k = true -> ∃ e ∈ tab, e.1 = args /\ k e.2 H = true
 | [], h => by have h : false = true := h; simp at h
 | e :: tab, h => by
   have h : ifK (AV.beqs e.1 args) (k e.2 H) (litOv tab args H k) = true := h
   cases hb : AV.beqs e.1 args with
   | true => rw [hb] at h; exact ⟨e, by simp, AV.beqs_eq _ _ hb, h⟩
   | false =>
     rw [hb] at h
     obtain ⟨e', h1, h2⟩ := litOv_inv (tab := tab) h
     exact ⟨e', by simp [h1], h2⟩
theorem litOv_good {P : Program} {G : Nat -> Option AV} {f : FuncId} {tab : List (List AV × AV)} (ht : ∀ e ∈ tab, ∀ H, Does P G f e.1 H fun r h => r = e.2 /\ h = H) (args : List AV) (H : FH) (k : AV -> FH -> Bool) (h : litOv tab args H k = true) :
  ∃ v H', Does P G f args H.abs (fun r h => r = v /\ h = FH.abs H') /\ H.next <= H'.next /\ k v H' = true := by
 obtain ⟨e, h1, rfl, h3⟩ := litOv_inv h
 exact ⟨e.2, H, ht e h1 H.abs, Nat.le_refl _, h3⟩
mutual
def AV.plain : AV -> Bool
 | .bool _ | .int _ _ | .str _ | .nilptr | .nilsl | .nilmap | .nilfunc | .niliface => true
 | .agg cs => AV.plains cs
 | .tuple cs => AV.plains cs
 | _ => false
def AV.plains : List AV -> Bool
 | [] => true
 | a :: l => AV.plain a && AV.plains l
end
mutual
theorem VRel.plain {E E' : Env} : ∀ {a : AV} {v : Value}, VRel E a v -> a.plain = true -> VRel E' a v
 | _, _, .bool b, _ => .bool b
 | _, _, .int k n, _ => .int k n
 | _, _, .str s, _ => .str s
 | _, _, .nilptr, _ => .nilptr
 | _, _, .nilsl, _ => .nilsl
 | _, _, .nilmap, _ => .nilmap
 | _, _, .nilfunc, _ => .nilfunc
 | _, _, .niliface, _ => .niliface
 | _, _, .agg h, p => .agg (VRels.plain h p)
 | _, _, .tuple h, p => .tuple (VRels.plain h p)
theorem VRels.plain {E E' : Env} : ∀ {a : List AV} {v : List Value}, VRels E a v -> AV.plains a = true -> VRels E' a v
 | _, _, .nil, _ => .nil
 | _, _, .cons h t, p => by
   simp only [AV.plains, Bool.and_eq_true] at p
   exact .cons (VRel.plain h p.1) (VRels.plain t p.2)
end
inductive Lent (get : Nat -> Option AObj) (n : Nat) : List AV -> List AV -> Prop
 | nil : Lent get n [] []
 | keep (a : AV) {l r : List AV} (h : Lent get n l r) : Lent get n (a :: l) (a :: r)
 | res {a b : AV} {l r : List AV} (e : AV.res get n a = some b) (h : Lent get n l r) : Lent get n (a :: l) (b :: r)
theorem Lent.rel {E : Env} {H : AHeap} {w : World} (hR : Rel E H w) {n : Nat} : ∀ {l r : List AV} {vs : List Value}, Lent H.get n l r -> VRels E l vs -> VRels (E.all w) r vs
 | _, _, _, .nil, .nil => .nil
 | _, _, _, .keep _ h, .cons h1 t => .cons (h1.mono (all_ext hR).knows) (Lent.rel hR h t)
 | _, _, _, .res e h, .cons h1 t => .cons (VRel.res hR n _ _ _ h1 e) (Lent.rel hR h t)
theorem Does.borrow {P : Program} {G : Nat -> Option AV} {f : FuncId} {args rargs : List AV} {H : AHeap} {n : Nat} {R : AV -> AHeap -> Prop}
  (hr : Lent H.get n args rargs) (h : Does P G f rargs (AHeap.empty H.next) R) (hp : ∀ r H1, R r H1 -> r.plain = true) :
  Does P G f args H fun r h => (∃ H1, R r H1) /\ h = H :=
 ⟨fun E w vs hR hG hv => by
  have hv2 : VRels (E.all w) rargs vs := Lent.rel hR hr hv
  refine (h.run (E.all w) w vs (all_rel hR) (hG.mono (all_ext hR).knows) hv2).mono ?_
  rintro v w' ⟨r, H1, E1, g1, g2, g3, g4⟩
  have hK : ∀ B o, E.F B = none -> w.heap[B]? = some o -> w'.heap[B]? = some o := fun B o hF hB => by
   refine g4.K B o (g2.K B o ?_)
   show (match E.F B with | some _ => none | none => w.heap[B]?) = some o
   rw [hF]; exact hB
  refine ⟨r, H, E, ⟨⟨H1, g1⟩, rfl⟩, ⟨fun _ _ h => h, fun _ _ h => h, rfl, rfl, rfl⟩, VRel.plain g3 (hp r H1 g1), ?_⟩
  refine ⟨g4.os.trans g2.os, g4.out.trans g2.out, fun B o hB => ?_, fun B o hB => ?_, hR.KF, hR.dom, fun i x hi => ?_, hR.inj⟩
  · rcases hR.KF B with e | e
    · rw [e] at hB; simp at hB
    · exact hK B o e (hR.K B o hB)
  · exact g4.F B o (by rw [g2.F]; exact hB)
  · obtain ⟨p, ob, h1, h2, h3, h4, h5⟩ := hR.live i x hi
    exact ⟨p, ob, h1, h2, h3, hK _ _ h3 h4, h5⟩⟩
end Go.Abs
namespace Go.Rp
open Go
structure Fl where
 now : Bs
 synced : Bs
 other : Bool
 deriving DecidableEq
structure Dk where
 f0 : Fl
 f1 : Fl
 f2 : Fl
 off : Bool
 crashed : Bool
 fuse : Int
 lives : Int
 deriving DecidableEq
def Fl.new : Fl := ⟨[], [], false⟩
def Dk.new : Dk := ⟨.new, .new, .new, false, false, 0, 1⟩
def Dk.file (d : Dk) (n : Nat) : Fl := if n = 0 then d.f0 else if n = 1 then d.f1 else d.f2
def Dk.setF (d : Dk) (n : Nat) (x : Fl) : Dk := if n = 0 then { d with f0 := x } else if n = 1 then { d with f1 := x } else { d with f2 := x }
def Dk.blown (d : Dk) : Bool × Dk :=
 if d.fuse = 0 then (false, d) else if 0 < d.fuse - 1 then (false, { d with fuse := d.fuse - 1 }) else (true, { d with fuse := d.fuse - 1, off := true, crashed := false })
def Dk.change (d : Dk) (n : Nat) (b : Bs) (other : Bool) : Nat × Dk :=
 if 262144 < b.length then (6, d)
 else if d.blown.1 = true then (4, d.blown.2) else (0, d.blown.2.setF n { d.blown.2.file n with now := b, other := (d.blown.2.file n).other || other })
def Dk.append (d : Dk) (n : Nat) (b : Bs) : Nat × Dk := if d.off = true then (4, d) else if 262144 < b.length then (6, d) else d.change n ((d.file n).now ++ b) false
def Fl.settle (f : Fl) : Fl := { f with synced := f.now, other := false }
def Dk.sync (d : Dk) (n : Nat) : Nat × Dk := if d.off = true then (4, d) else if d.blown.1 = true then (4, d.blown.2) else (0, d.blown.2.setF n (d.blown.2.file n).settle)
def lt (i : Nat) (r : Bs) : Bs := encU (i + 1) ++ encS r
def texts : Nat -> List Bs -> List Bs
 | _, [] => []
 | i, r :: l => lt i r :: texts (i + 1) l
theorem texts_len : ∀ (l : List Bs) (i : Nat), (texts i l).length = l.length
 | [], _ => rfl
 | _ :: l, i => by simp [texts, texts_len l]
theorem texts_append (m : List Bs) : ∀ (l : List Bs) (i : Nat), texts i (l ++ m) = texts i l ++ texts (i + l.length) m
 | [], _ => by simp [texts]
 | _ :: l, i => by simp [texts, texts_append m l, Nat.add_comm 1, Nat.add_assoc]
def same (a b : En) : Bool := decide (a.id = b.id) && decide (a.l = b.l)
def sames : List En -> List En -> Bool
 | a :: l, b :: m => same a b && sames l m
 | [], [] => true
 | _, _ => false
def begins (l w : List En) : Bool := decide (w.length <= l.length) && sames (l.take w.length) w
structure Cs where
 view : Nat
 last : Nat
 list : List En
 agreed : Nat
 deriving DecidableEq
def apply (c : Cs) (x : Rc) : Option Cs :=
 if x.kind = 1 then (if x.view < c.view \/ 0 < x.list.length then none else some { c with view := x.view })
 else if x.kind = 2 then (if x.view < c.view \/ x.view < c.last \/ begins x.list (c.list.take c.agreed) = false then none else some { c with view := x.view, last := x.view, list := x.list })
 else if x.kind = 3 then (if listed (c.list ++ x.list) = true then some { c with list := c.list ++ x.list } else none)
 else if x.kind = 4 then (if x.list.length < x.agreed then none else some ⟨x.view, x.last, x.list, x.agreed⟩)
 else none
def opened (me n : Nat) : Cs -> List Bs -> Option Cs
 | c, [] => some c
 | c, b :: l => match parse me n b with
   | none => none
   | some x => match apply c x with
     | none => none
     | some c' => opened me n c' l
/-! ### a replica alone -/
def ents : Nat -> List Int -> List En
 | _, [] => []
 | i, v :: l => ⟨i, 0, some [v]⟩ :: ents (i + 1) l
def recsOf (xs : List Int) : List Bs := za4 0 1 1 1 0 0 [] :: za4 0 1 2 1 0 0 [] :: (ents 1 xs).map fun e => za4 0 1 3 0 0 0 [e]
theorem ents_len : ∀ (l : List Int) (i : Nat), (ents i l).length = l.length
 | [], _ => rfl
 | _ :: l, i => by simp [ents, ents_len l]
theorem ents_append (m : List Int) : ∀ (l : List Int) (i : Nat), ents i (l ++ m) = ents i l ++ ents (i + l.length) m
 | [], _ => by simp [ents]
 | _ :: l, i => by simp [ents, ents_append m l, Nat.add_comm 1, Nat.add_assoc]
theorem ents_mem : ∀ (l : List Int) (i : Nat) (e : En), e ∈ ents i l -> i <= e.id /\ e.id < i + l.length /\ e.view = 0 /\ ∃ v, v ∈ l /\ e.row = some [v]
 | [], _, e, h => by simp [ents] at h
 | v :: l, i, e, h => by
   simp only [ents, List.mem_cons] at h
   rcases h with rfl | h
   · exact ⟨Nat.le_refl _, by simp, rfl, v, by simp, rfl⟩
   · obtain ⟨h1, h2, h3, w, h4, h5⟩ := ents_mem l (i + 1) e h
     exact ⟨by omega, by simp; omega, h3, w, by simp [h4], h5⟩
end Go.Rp
namespace Go.Abs
open Go
def ADs [X : Hid Ctx] [ops : Hid (Array Oper)] [K : Hid (List Lite -> (Nat -> AV) -> AHeap -> Prop)] [l : Hid (List Oper)] [s : Hid (List Lite)] [T : Hid (Nat -> AV)] (H : AHeap) : Prop := ADr X.v ops.v K.v l.v s.v T.v H
section
variable {X : Ctx} {T : Nat -> AV} {H : AHeap} {ops : Array Oper} {K : List Lite -> (Nat -> AV) -> AHeap -> Prop} {s : List Lite}
theorem zak {o : Oper} {r : List Oper} : @ADf ⟨X⟩ ⟨ops⟩ ⟨K⟩ ⟨o :: r⟩ ⟨s⟩ ⟨T⟩ H =
  @condA (zap ops T o)
   ⟨fun _ => @altO _ (zaJ (aval X.G T) o) ⟨fun fa => ∃ x H', Does X.P X.G fa.1 fa.2 H (fun y h => y = x /\ h = H') /\ H.next <= H'.next /\ @ADs ⟨X⟩ ⟨ops⟩ ⟨K⟩ ⟨r⟩ ⟨s ++ [⟨3, H, fun _ => none, x⟩]⟩ ⟨tput T o.dst x⟩ H'⟩
    ⟨@altO _ (apure X.P (aval X.G T) o) ⟨fun v => @ADf ⟨X⟩ ⟨ops⟩ ⟨K⟩ ⟨r⟩ ⟨s ++ [⟨0, H, fun _ => none, v⟩]⟩ ⟨tput T o.dst v⟩ H⟩
     ⟨@altO _ (aread X.P (aval X.G T) H.get o) ⟨fun v => @ADf ⟨X⟩ ⟨ops⟩ ⟨K⟩ ⟨r⟩ ⟨s ++ [⟨1, H, fun g => aread X.P (aval X.G T) g o, v⟩]⟩ ⟨tput T o.dst v⟩ H⟩
      ⟨@altO _ (aalloc X.P (aval X.G T) o) ⟨fun x => @ADf ⟨X⟩ ⟨ops⟩ ⟨K⟩ ⟨r⟩ ⟨s ++ [⟨2, H, fun _ => none, x.2 H.next⟩]⟩ ⟨tput T o.dst (x.2 H.next)⟩ (H.push x.1)⟩
       ⟨@altO _ (aeff X.P (aval X.G T) H.get H.next o) ⟨fun x => @ADf ⟨X⟩ ⟨ops⟩ ⟨K⟩ ⟨r⟩ ⟨s ++ [⟨3, H, fun _ => none, x.1⟩]⟩ ⟨tput T o.dst x.1⟩ (H.eff x.2)⟩ ⟨False⟩⟩⟩⟩⟩⟩
   ⟨fun _ => @ADf ⟨X⟩ ⟨ops⟩ ⟨K⟩ ⟨r⟩ ⟨s ++ [⟨0, H, fun _ => none, zaz⟩]⟩ ⟨tput T o.dst zaz⟩ H⟩ := Eq.trans rfl rfl
theorem ad_go {l : List Oper} (F : (Nat -> AV) -> Prop) (hF : F T) (h : ∀ T', F T' -> @ADf ⟨X⟩ ⟨ops⟩ ⟨K⟩ ⟨l⟩ ⟨s⟩ ⟨T'⟩ H) : @ADs ⟨X⟩ ⟨ops⟩ ⟨K⟩ ⟨l⟩ ⟨s⟩ ⟨T⟩ H := h T hF
end
end Go.Abs
namespace Go.Rp
open Go
structure Ms where
 kind : Nat
 frm : Nat
 to : Nat
 view : Nat
 last : Nat
 op : Nat
 commit : Nat
 ents : List En
structure Co where
 me : Nat
 n : Nat
 view : Nat
 last : Nat
 list : List En
 agreed : Nat
 lead : Bool
 quiet : Nat
 got : List (Nat × Nat × List En)
 held : List (Nat × Nat)
 wait : List En
structure Sp where
 save : List Bs
 send : List Ms
def hasId (l : List En) (id : Nat) : Bool := l.any fun e => decide (e.id = id)
def mput {α : Type} (k : Nat) (v : α) : List (Nat × α) -> List (Nat × α)
 | [] => [(k, v)]
 | (a, x) :: l => if k = a then (k, v) :: l else (a, x) :: mput k v l
end Go.Rp
namespace Go.Abs
open Go
mutual
inductive ResV (get : Nat -> Option AObj) (n : Nat) : AV -> AV -> Prop
 | old {v : AV} (h : v.idLt n = true) : ResV get n v v
 | ptr {i o : Nat} {cs r : List AV} (hn : n <= i) (hi : get i = some (.cells cs)) (h : ResL get n (cs.drop o) r) : ResV get n (.ptr i o) (.vptr r)
 | sl {i o z len cap : Nat} {opn : Bool} {cs r : List AV} (hn : n <= i) (hi : get i = some (.cells cs)) (h : ResL get n ((cs.drop o).take (len * z)) r) : ResV get n (.sl i o z len cap opn) (.vsl r len)
 | vptr {cs r : List AV} (h : ResL get n cs r) : ResV get n (.vptr cs) (.vptr r)
 | vsl {cs r : List AV} {len : Nat} (h : ResL get n cs r) : ResV get n (.vsl cs len) (.vsl r len)
 | agg {cs r : List AV} (h : ResL get n cs r) : ResV get n (.agg cs) (.agg r)
 | tuple {cs r : List AV} (h : ResL get n cs r) : ResV get n (.tuple cs) (.tuple r)
inductive ResL (get : Nat -> Option AObj) (n : Nat) : List AV -> List AV -> Prop
 | nil : ResL get n [] []
 | cons {a b : AV} {as_ bs : List AV} (h : ResV get n a b) (t : ResL get n as_ bs) : ResL get n (a :: as_) (b :: bs)
end
mutual
theorem ResV.mono {g g' : Nat -> Option AObj} {n : Nat} (hg : ∀ i cs, n <= i -> g i = some (.cells cs) -> g' i = some (.cells cs)) : ∀ {v r : AV}, ResV g n v r -> ResV g' n v r
 | _, _, .old h => .old h
 | _, _, .ptr hn hi h => .ptr hn (hg _ _ hn hi) (ResL.mono hg h)
 | _, _, .sl hn hi h => .sl hn (hg _ _ hn hi) (ResL.mono hg h)
 | _, _, .vptr h => .vptr (ResL.mono hg h)
 | _, _, .vsl h => .vsl (ResL.mono hg h)
 | _, _, .agg h => .agg (ResL.mono hg h)
 | _, _, .tuple h => .tuple (ResL.mono hg h)
theorem ResL.mono {g g' : Nat -> Option AObj} {n : Nat} (hg : ∀ i cs, n <= i -> g i = some (.cells cs) -> g' i = some (.cells cs)) : ∀ {v r : List AV}, ResL g n v r -> ResL g' n v r
 | _, _, .nil => .nil
 | _, _, .cons h t => .cons (ResV.mono hg h) (ResL.mono hg t)
end
theorem ResL.old {g : Nat -> Option AObj} {n : Nat} : ∀ {l : List AV}, AV.allLt n l = true -> ResL g n l l
 | [], _ => .nil
 | a :: l, h => by
   simp only [AV.allLt, Bool.and_eq_true] at h
   exact .cons (.old h.1) (ResL.old h.2)
mutual
theorem ResV.down {g : Nat -> Option AObj} {n m : Nat} (hm : m <= n) : ∀ {v r : AV}, ResV g n v r -> r.idLt m = true -> ResV g m v r
 | _, _, .old _, hr => .old hr
 | _, _, .ptr hn hi h, hr => .ptr (Nat.le_trans hm hn) hi (ResL.down hm h (by simpa [AV.idLt] using hr))
 | _, _, .sl hn hi h, hr => .sl (Nat.le_trans hm hn) hi (ResL.down hm h (by simpa [AV.idLt] using hr))
 | _, _, .vptr h, hr => .vptr (ResL.down hm h (by simpa [AV.idLt] using hr))
 | _, _, .vsl h, hr => .vsl (ResL.down hm h (by simpa [AV.idLt] using hr))
 | _, _, .agg h, hr => .agg (ResL.down hm h (by simpa [AV.idLt] using hr))
 | _, _, .tuple h, hr => .tuple (ResL.down hm h (by simpa [AV.idLt] using hr))
theorem ResL.down {g : Nat -> Option AObj} {n m : Nat} (hm : m <= n) : ∀ {v r : List AV}, ResL g n v r -> AV.allLt m r = true -> ResL g m v r
 | _, _, .nil, _ => .nil
 | _, _, .cons h t, hr => by
   simp only [AV.allLt, Bool.and_eq_true] at hr
   exact .cons (ResV.down hm h hr.1) (ResL.down hm t hr.2)
end
noncomputable def Env.from_ (E : Env) (H : AHeap) (w : World) (n : Nat) : Env := { φ := fun i => if i < n then E.φ i else none, F := E.F, os := E.os, out := E.out, K := fun B => match E.K B with
 | some o => some o
 | none => match E.F B with
   | some _ => none
   | none => by
     classical
     exact if (∃ i x p, i < n /\ H.get i = some x /\ E.φ i = some p /\ p.b = B) then none else w.heap[B]? }
section
variable {E : Env} {H : AHeap} {w : World} {n : Nat}
theorem from_K {B : Nat} {o : Obj} (h : E.K B = some o) : (E.from_ H w n).K B = some o := by
 show (match E.K B with | some o => some o | none => _) = some o
 rw [h]
theorem from_live (hR : Rel E H w) {i : Nat} {x : AObj} {p : Place} (hi : i < n) (hx : H.get i = some x) (hp : E.φ i = some p) : (E.from_ H w n).K p.b = none := by
 obtain ⟨q, ob, h1, h2, h3, h4, h5⟩ := hR.live i x hx
 rw [hp] at h1; cases h1
 show (match E.K p.b with | some o => some o | none => _) = none
 rw [h2]
 show (match E.F p.b with | some _ => none | none => _) = none
 rw [h3]
 exact if_pos ⟨i, x, p, hi, hx, hp, rfl⟩
theorem from_new (hR : Rel E H w) {i : Nat} {x : AObj} {p : Place} (hi : n <= i) (hx : H.get i = some x) (hp : E.φ i = some p) : (E.from_ H w n).K p.b = w.heap[p.b]? := by
 obtain ⟨q, ob, h1, h2, h3, h4, h5⟩ := hR.live i x hx
 rw [hp] at h1; cases h1
 show (match E.K p.b with | some o => some o | none => _) = w.heap[p.b]?
 rw [h2]
 show (match E.F p.b with | some _ => none | none => _) = w.heap[p.b]?
 rw [h3]
 refine if_neg ?_
 rintro ⟨j, y, q, hj, hy, hq, e⟩
 have := hR.inj j i y x q p hy hx hq hp e
 omega
theorem from_knows : Knows (E.cut n) (E.from_ H w n) := ⟨fun _ _ h => h, fun _ _ h => from_K h⟩
theorem from_ink (hR : Rel E H w) {i : Nat} {cs : List AV} {p : Place} (hn : n <= i) (hi : H.get i = some (.cells cs)) (hp : E.φ i = some p) (o : Nat) :
  ∃ vs, InK (E.from_ H w n) p.b (p.s + o) vs /\ VRels E (cs.drop o) vs := by
 have hK := from_new (n := n) hR hn hi hp
 obtain ⟨q, ob, h1, h2, h3, h4, c, e, fz, vs, rfl, _, h6, h7, _⟩ := hR.live i _ hi
 rw [hp] at h1; cases h1
 refine ⟨vs.drop o, .inr ⟨c, e, fz, hK.trans h4, ?_⟩, h6.drop o⟩
 obtain ⟨t, ht⟩ := h7
 rw [<- List.drop_drop, <- ht]
 by_cases ho : o <= vs.length
 · rw [List.drop_append_of_le_length ho]; exact List.prefix_append _ _
 · rw [List.drop_of_length_le (by omega)]; exact List.nil_prefix
theorem InK.from_ {B o : Nat} {vs : List Value} (h : InK E B o vs) : InK (E.from_ H w n) B o vs := by
 rcases h with h | ⟨c, e, f, h1, h2⟩
 · exact .inl h
 · exact .inr ⟨c, e, f, from_K h1, h2⟩
mutual
theorem VRel.resV (hR : Rel E H w) : ∀ {v r : AV} {u : Value}, ResV H.get n v r -> VRel E v u -> VRel (E.from_ H w n) r u
 | _, _, _, .old h, hv => (VRel.cut hv h).mono from_knows
 | _, _, _, .ptr hn hi h, hv => by
   cases hv with
   | ptr hp =>
     obtain ⟨vs, h1, h2⟩ := from_ink hR hn hi hp _
     exact .vptr h1 (VRels.resL hR h h2)
 | _, _, _, .sl (len := len) (z := z) hn hi h, hv => by
   cases hv with
   | sl hp hl hc ho hm =>
     obtain ⟨vs, h1, h2⟩ := from_ink hR hn hi hp _
     refine .vsl (vs := vs.take (len * z)) ?_ (VRels.resL hR h (h2.take _)) (Nat.le_trans hl hc)
     rcases h1 with h1 | ⟨c, e, f, g1, g2⟩
     · left; rw [h1]; simp
     · exact .inr ⟨c, e, f, g1, (List.take_prefix _ _).trans g2⟩
 | _, _, _, .vptr h, hv => by
   cases hv with
   | vptr hK hv => exact .vptr hK.from_ (VRels.resL hR h hv)
 | _, _, _, .vsl h, hv => by
   cases hv with
   | vsl hK hv hl => exact .vsl hK.from_ (VRels.resL hR h hv) hl
   | vsl0 => cases h; exact .vsl0
 | _, _, _, .agg h, hv => by
   cases hv with
   | agg hv => exact .agg (VRels.resL hR h hv)
 | _, _, _, .tuple h, hv => by
   cases hv with
   | tuple hv => exact .tuple (VRels.resL hR h hv)
theorem VRels.resL (hR : Rel E H w) : ∀ {v r : List AV} {u : List Value}, ResL H.get n v r -> VRels E v u -> VRels (E.from_ H w n) r u
 | _, _, _, .nil, hv => by cases hv; exact .nil
 | _, _, _, .cons h t, hv => by
   cases hv with
   | cons hv ht => exact .cons (VRel.resV hR h hv) (VRels.resL hR t ht)
end
end
theorem Ghost.deep {n : Nat} {v r : AV} {H H2 : AHeap} (hv : ResV H.get n v r) (hn : H2.next = n) (hs : ∀ i x, H2.get i = some x -> H.get i = some x /\ i < n /\ AV.allLt n x.cellsList = true) : Ghost n v H r H2 := fun E0 E w u hd hx hu hR => by
 subst hn
 have hgc := hR.gc hs
 refine ⟨E.from_ H w H2.next, ⟨fun i p hp => ?_, fun B o hB => from_K (hx.K B o hB), hx.F, hx.os, hx.out⟩, VRel.resV hR hv hu, ?_⟩
 · show (if i < H2.next then E.φ i else none) = some p
   rw [if_pos (hd i p hp)]; exact hx.φ i p hp
 · refine ⟨hR.os, hR.out, fun B o hB => ?_, hR.F, fun B => ?_, hgc.dom, fun i x hi => ?_, hgc.inj⟩
   · have hB : (match E.K B with | some o => some o | none => _) = some o := hB
     split at hB
     · rename_i o' ho'
       simp only [Option.some.injEq] at hB; subst hB
       exact hR.K B _ ho'
     · split at hB
       · simp at hB
       · split at hB
         · simp at hB
         · exact hB
   · cases hF : E.F B with
     | none => exact .inr hF
     | some o =>
       left
       have hK : E.K B = none := by
        rcases hR.KF B with e | e
        · exact e
        · rw [hF] at e; simp at e
       show (match E.K B with | some o => some o | none => _) = none
       rw [hK]
       show (match E.F B with | some _ => none | none => _) = none
       rw [hF]
   · obtain ⟨p, ob, h1, h2, h3, h4, h5⟩ := hgc.live i x hi
     obtain ⟨g1, g2, _⟩ := hs i x hi
     have hp : E.φ i = some p := by
      have h1 : (if i < H2.next then E.φ i else none) = some p := h1
      rw [if_pos g2] at h1; exact h1
     exact ⟨p, ob, h1, from_live hR g2 g1 hp, h3, h4, h5.mono from_knows⟩
theorem Does.deep {P : Program} {G : Nat -> Option AV} {f : FuncId} {args : List AV} {H : AHeap} {R R' : AV -> AHeap -> Prop} (h : Does P G f args H R)
  (hg : H.Wf -> AV.allLt H.next args = true -> ∀ r H1, R r H1 -> ∃ r' H2, ResV H1.get H.next r r' /\ H2.next = H.next /\ (∀ i x, H2.get i = some x -> H1.get i = some x /\ i < H.next /\ AV.allLt H.next x.cellsList = true) /\ R' r' H2) : Does P G f args H R' :=
 Does.wfs fun hw ha => h.ghost fun r H1 hr => by
  obtain ⟨r', H2, h1, h2, h3, h4⟩ := hg hw ha r H1 hr
  exact ⟨r', H2, Ghost.deep h1 h2 h3, h4⟩
mutual
def AV.ren (ρ : Nat -> Nat) : AV -> AV
 | .bool b => .bool b
 | .int k n => .int k n
 | .str s => .str s
 | .nilptr => .nilptr
 | .ptr i o => .ptr (ρ i) o
 | .vptr cs => .vptr (AV.rens ρ cs)
 | .nilsl => .nilsl
 | .sl i o z len cap opn => .sl (ρ i) o z len cap opn
 | .vsl cs n => .vsl (AV.rens ρ cs) n
 | .nilmap => .nilmap
 | .map i => .map (ρ i)
 | .func f a b => .func f (AV.rens ρ a) (AV.rens ρ b)
 | .nilfunc => .nilfunc
 | .iface t v => .iface t (AV.ren ρ v)
 | .niliface => .niliface
 | .agg cs => .agg (AV.rens ρ cs)
 | .tuple cs => .tuple (AV.rens ρ cs)
 | .csl cs n => .csl (AV.rens ρ cs) n
def AV.rens (ρ : Nat -> Nat) : List AV -> List AV
 | [] => []
 | a :: l => AV.ren ρ a :: AV.rens ρ l
end
def AObj.ren (ρ : Nat -> Nat) : AObj -> AObj
 | .cells cs => .cells (AV.rens ρ cs)
 | .row t cs => .row t (AV.rens ρ cs)
 | .map es => .map (es.map fun e => (e.1.ren ρ, e.2.ren ρ))
theorem rens_map (ρ : Nat -> Nat) : ∀ l : List AV, AV.rens ρ l = l.map (AV.ren ρ)
 | [] => rfl
 | a :: l => by rw [AV.rens, rens_map ρ l]; rfl
section
variable {E E0 : Env} {m : Nat} {ρ : Nat -> Nat}
mutual
theorem VRel.unren (hφ : ∀ i p, i < m -> E.φ (ρ i) = some p -> E0.φ i = some p) (hK : ∀ B o, E.K B = some o -> E0.K B = some o) : ∀ {v : AV} {u : Value}, VRel E (v.ren ρ) u -> v.idLt m = true -> VRel E0 v u
 | .bool b, _, h, _ => by rw [AV.ren] at h; cases h; exact .bool b
 | .int k n, _, h, _ => by rw [AV.ren] at h; cases h; exact .int k n
 | .str s, _, h, _ => by rw [AV.ren] at h; cases h; exact .str s
 | .nilptr, _, h, _ => by rw [AV.ren] at h; cases h; exact .nilptr
 | .ptr i o, _, h, hi => by
   rw [AV.ren] at h
   cases h with
   | ptr h => exact .ptr (hφ i _ (by simpa [AV.idLt] using hi) h)
 | .vptr cs, _, h, hi => by
   rw [AV.ren] at h
   cases h with
   | vptr h1 h2 => exact .vptr (h1.imp id fun ⟨c, e, f, a, b⟩ => ⟨c, e, f, hK _ _ a, b⟩) (VRels.unren hφ hK h2 (by simpa [AV.idLt] using hi))
 | .nilsl, _, h, _ => by rw [AV.ren] at h; cases h; exact .nilsl
 | .sl i o z len cap opn, _, h, hi => by
   rw [AV.ren] at h
   cases h with
   | sl h hl hc ho hn => exact .sl (hφ i _ (by simpa [AV.idLt] using hi) h) hl hc ho hn
 | .vsl cs n, _, h, hi => by
   rw [AV.ren] at h
   cases cs with
   | nil =>
     rw [AV.rens] at h
     cases h with
     | vsl h1 h2 h3 => cases h2; exact .vsl (h1.imp id fun ⟨c, e, f, a, b⟩ => ⟨c, e, f, hK _ _ a, b⟩) .nil h3
     | vsl0 => exact .vsl0
   | cons a cs =>
     rw [AV.rens] at h
     cases h with
     | vsl h1 h2 h3 => exact .vsl (h1.imp id fun ⟨c, e, f, a, b⟩ => ⟨c, e, f, hK _ _ a, b⟩) (VRels.unren hφ hK (as_ := a :: cs) (by rw [AV.rens]; exact h2) (by simpa [AV.idLt] using hi)) h3
 | .nilmap, _, h, _ => by rw [AV.ren] at h; cases h; exact .nilmap
 | .map i, _, h, hi => by
   rw [AV.ren] at h
   cases h with
   | map h => exact .map (hφ i _ (by simpa [AV.idLt] using hi) h)
 | .func f a b, _, h, hi => by
   rw [AV.ren] at h
   simp only [AV.idLt, Bool.and_eq_true] at hi
   cases h with
   | func h1 h2 => exact .func (VRels.unren hφ hK h1 hi.1) (VRels.unren hφ hK h2 hi.2)
 | .nilfunc, _, h, _ => by rw [AV.ren] at h; cases h; exact .nilfunc
 | .iface t v, _, h, hi => by
   rw [AV.ren] at h
   cases h with
   | iface h => exact .iface (VRel.unren hφ hK h (by simpa [AV.idLt] using hi))
 | .niliface, _, h, _ => by rw [AV.ren] at h; cases h; exact .niliface
 | .agg cs, _, h, hi => by
   rw [AV.ren] at h
   cases h with
   | agg h => exact .agg (VRels.unren hφ hK h (by simpa [AV.idLt] using hi))
 | .tuple cs, _, h, hi => by
   rw [AV.ren] at h
   cases h with
   | tuple h => exact .tuple (VRels.unren hφ hK h (by simpa [AV.idLt] using hi))
 | .csl cs n, _, h, hi => by
   rw [AV.ren] at h
   cases h with
   | csl h1 h2 => exact .csl (h1.imp id fun ⟨c, e, f, a, b⟩ => ⟨c, e, f, hK _ _ a, b⟩) (VRels.unren hφ hK h2 (by simpa [AV.idLt] using hi))
theorem VRels.unren (hφ : ∀ i p, i < m -> E.φ (ρ i) = some p -> E0.φ i = some p) (hK : ∀ B o, E.K B = some o -> E0.K B = some o) : ∀ {as_ : List AV} {us : List Value}, VRels E (AV.rens ρ as_) us -> AV.allLt m as_ = true -> VRels E0 as_ us
 | [], _, h, _ => by rw [AV.rens] at h; cases h; exact .nil
 | a :: as_, _, h, hi => by
   rw [AV.rens] at h
   simp only [AV.allLt, Bool.and_eq_true] at hi
   cases h with
   | cons h t => exact .cons (VRel.unren hφ hK h hi.1) (VRels.unren hφ hK t hi.2)
end
mutual
theorem VRel.ren (hφ : ∀ i p, i < m -> E0.φ i = some p -> E.φ (ρ i) = some p) (hK : ∀ B o, E0.K B = some o -> E.K B = some o) : ∀ {v : AV} {u : Value}, VRel E0 v u -> v.idLt m = true -> VRel E (v.ren ρ) u
 | _, _, .bool b, _ => .bool b
 | _, _, .int k n, _ => .int k n
 | _, _, .str s, _ => .str s
 | _, _, .nilptr, _ => .nilptr
 | _, _, .ptr h, hi => .ptr (hφ _ _ (by simpa [AV.idLt] using hi) h)
 | _, _, .vptr h1 h2, hi => .vptr (h1.imp id fun ⟨c, e, f, a, b⟩ => ⟨c, e, f, hK _ _ a, b⟩) (VRels.ren hφ hK h2 (by simpa [AV.idLt] using hi))
 | _, _, .nilsl, _ => .nilsl
 | _, _, .sl h hl hc ho hn, hi => .sl (hφ _ _ (by simpa [AV.idLt] using hi) h) hl hc ho hn
 | _, _, .vsl h1 h2 h3, hi => .vsl (h1.imp id fun ⟨c, e, f, a, b⟩ => ⟨c, e, f, hK _ _ a, b⟩) (VRels.ren hφ hK h2 (by simpa [AV.idLt] using hi)) h3
 | _, _, .vsl0, _ => .vsl0
 | _, _, .nilmap, _ => .nilmap
 | _, _, .map h, hi => .map (hφ _ _ (by simpa [AV.idLt] using hi) h)
 | _, _, .func h1 h2, hi => by
   simp only [AV.idLt, Bool.and_eq_true] at hi
   exact .func (VRels.ren hφ hK h1 hi.1) (VRels.ren hφ hK h2 hi.2)
 | _, _, .nilfunc, _ => .nilfunc
 | _, _, .iface h, hi => .iface (VRel.ren hφ hK h (by simpa [AV.idLt] using hi))
 | _, _, .niliface, _ => .niliface
 | _, _, .agg h, hi => .agg (VRels.ren hφ hK h (by simpa [AV.idLt] using hi))
 | _, _, .tuple h, hi => .tuple (VRels.ren hφ hK h (by simpa [AV.idLt] using hi))
 | _, _, .csl h1 h2, hi => .csl (h1.imp id fun ⟨c, e, f, a, b⟩ => ⟨c, e, f, hK _ _ a, b⟩) (VRels.ren hφ hK h2 (by simpa [AV.idLt] using hi))
theorem VRels.ren (hφ : ∀ i p, i < m -> E0.φ i = some p -> E.φ (ρ i) = some p) (hK : ∀ B o, E0.K B = some o -> E.K B = some o) : ∀ {as_ : List AV} {us : List Value}, VRels E0 as_ us -> AV.allLt m as_ = true -> VRels E (AV.rens ρ as_) us
 | _, _, .nil, _ => .nil
 | _, _, .cons h t, hi => by
   simp only [AV.allLt, Bool.and_eq_true] at hi
   exact .cons (VRel.ren hφ hK h hi.1) (VRels.ren hφ hK t hi.2)
end
theorem ORel.unren (hφ : ∀ i p, i < m -> E.φ (ρ i) = some p -> E0.φ i = some p) (hK : ∀ B o, E.K B = some o -> E0.K B = some o) {p : Place} {x : AObj} {ob : Obj} (h : ORel E p (x.ren ρ) ob) (hi : AV.allLt m x.cellsList = true) : ORel E0 p x ob := by
 cases x with
 | cells cs => obtain ⟨c, e, fz, vs, h1, h2, h3, h4, h5⟩ := h; exact ⟨c, e, fz, vs, h1, h2, h3.unren hφ hK hi, h4, h5⟩
 | row t cs => obtain ⟨⟨c, e, fz, vs, h1, h2, h3, h4, h5⟩, h6⟩ := h; exact ⟨⟨c, e, fz, vs, h1, h2, h3.unren hφ hK hi, h4, h5⟩, h6⟩
 | map es =>
   obtain ⟨ents, clk, h1, h2, h3⟩ := h
   rw [AObj.cellsList, AV.allLt_append, Bool.and_eq_true] at hi
   refine ⟨ents, clk, h1, VRels.unren hφ hK (ρ := ρ) ?_ hi.1, VRels.unren hφ hK (ρ := ρ) ?_ hi.2⟩
   · rw [rens_map, List.map_map]; simp only [List.map_map] at h2; exact h2
   · rw [rens_map, List.map_map]; simp only [List.map_map] at h3; exact h3
theorem ORel.ren (hφ : ∀ i p, i < m -> E0.φ i = some p -> E.φ (ρ i) = some p) (hK : ∀ B o, E0.K B = some o -> E.K B = some o) {p : Place} {x : AObj} {ob : Obj} (h : ORel E0 p x ob) (hi : AV.allLt m x.cellsList = true) : ORel E p (x.ren ρ) ob := by
 cases x with
 | cells cs => obtain ⟨c, e, fz, vs, h1, h2, h3, h4, h5⟩ := h; exact ⟨c, e, fz, vs, h1, h2, h3.ren hφ hK hi, h4, h5⟩
 | row t cs => obtain ⟨⟨c, e, fz, vs, h1, h2, h3, h4, h5⟩, h6⟩ := h; exact ⟨⟨c, e, fz, vs, h1, h2, h3.ren hφ hK hi, h4, h5⟩, h6⟩
 | map es =>
   obtain ⟨ents, clk, h1, h2, h3⟩ := h
   rw [AObj.cellsList, AV.allLt_append, Bool.and_eq_true] at hi
   refine ⟨ents, clk, h1, ?_, ?_⟩
   · have := VRels.ren hφ hK h2 hi.1
     rw [rens_map, List.map_map] at this
     simp only [List.map_map]; exact this
   · have := VRels.ren hφ hK h3 hi.2
     rw [rens_map, List.map_map] at this
     simp only [List.map_map]; exact this
end
structure IsPart (H0 : AHeap) (ρ : Nat -> Nat) (H : AHeap) : Prop where
 full : ∀ i, i < H0.next -> ∃ x, H0.get i = some x /\ H.get (ρ i) = some (x.ren ρ)
 inj : ∀ i j, i < H0.next -> j < H0.next -> ρ i = ρ j -> i = j
def AHeap.patch (H H1 : AHeap) (m : Nat) (ρ : Nat -> Nat) : AHeap := { next := H.next, get := fun j => match (List.range m).find? (fun i => ρ i == j) with
 | some i => (H1.get i).map (AObj.ren ρ)
 | none => H.get j }
noncomputable def Env.part (E : Env) (H0 : AHeap) (ρ : Nat -> Nat) (H : AHeap) (w : World) : Env := by
 classical
 exact { φ := fun i => if i < H0.next then E.φ (ρ i) else none, K := E.K, F := fun B => if (∃ j x p, H.get j = some x /\ (∀ i, i < H0.next -> ρ i ≠ j) /\ E.φ j = some p /\ p.b = B) then w.heap[B]? else E.F B, os := E.os, out := E.out }
section
variable {E : Env} {H0 H : AHeap} {ρ : Nat -> Nat} {w : World}
theorem part_live {B j : Nat} {x : AObj} {p : Place} (hj : H.get j = some x) (hn : ∀ i, i < H0.next -> ρ i ≠ j) (hp : E.φ j = some p) (hb : p.b = B) : (E.part H0 ρ H w).F B = w.heap[B]? := by
 unfold Env.part
 exact if_pos ⟨j, x, p, hj, hn, hp, hb⟩
theorem za8 (E : Env) (H0 : AHeap) (ρ : Nat -> Nat) (H : AHeap) (w : World) (B : Nat) : (E.part H0 ρ H w).F B = E.F B \/ (∃ j x p, H.get j = some x /\ (∀ i, i < H0.next -> ρ i ≠ j) /\ E.φ j = some p /\ p.b = B) := by
 by_cases h : ∃ j x p, H.get j = some x /\ (∀ i, i < H0.next -> ρ i ≠ j) /\ E.φ j = some p /\ p.b = B
 · exact .inr h
 · left; unfold Env.part; exact if_neg h
theorem part_φ {i : Nat} (hi : i < H0.next) : (E.part H0 ρ H w).φ i = E.φ (ρ i) := by
 show (if i < H0.next then E.φ (ρ i) else none) = _
 rw [if_pos hi]
end
theorem Does.part {P : Program} {G : Nat -> Option AV} {f : FuncId} {args : List AV} {H0 H : AHeap} {ρ : Nat -> Nat} {R : AV -> AHeap -> Prop} (h : Does P G f args H0 R) (hw0 : H0.Wf) (ha : AV.allLt H0.next args = true)
  (hp : IsPart H0 ρ H) (hG : ∀ g a, G g = some a -> a.idLt 0 = true) (hr : ∀ r H1, R r H1 -> H1.next = H0.next /\ r.idLt H0.next = true) :
  Does P G f (AV.rens ρ args) H fun r h => ∃ r0 H1, R r0 H1 /\ r = r0.ren ρ /\ h = H.patch H1 H0.next ρ :=
 ⟨fun E w vs hR hG' hv => by
  have hlive : ∀ i x p, H.get i = some x -> E.φ i = some p -> E.K p.b = none /\ E.F p.b = none /\ ∃ ob, w.heap[p.b]? = some ob /\ ORel E p x ob := fun i x p hi hp => by
   obtain ⟨q, ob, h1, h2, h3, h4, h5⟩ := hR.live i x hi
   rw [hp] at h1; cases h1
   exact ⟨h2, h3, ob, h4, h5⟩
  have hback : ∀ i p, i < H0.next -> E.φ (ρ i) = some p -> (E.part H0 ρ H w).φ i = some p := fun i p hi hq => by rw [part_φ hi]; exact hq
  have hR0 : Rel (E.part H0 ρ H w) H0 w := by
   refine ⟨hR.os, hR.out, hR.K, fun B o hB => ?_, fun B => ?_, fun i p hq => ?_, fun i x hi => ?_, fun i j x y p q hi hj hpi hqj hb => ?_⟩
   · rcases za8 E H0 ρ H w B with e | ⟨j, x, p, hj, hn, hq, rfl⟩
     · rw [e] at hB; exact hR.F B o hB
     · rw [part_live hj hn hq rfl] at hB; exact hB
   · rcases za8 E H0 ρ H w B with e | ⟨j, x, p, hj, hn, hq, rfl⟩
     · rw [e]; exact hR.KF B
     · exact .inl (hlive j x p hj hq).1
   · have hq : (if i < H0.next then E.φ (ρ i) else none) = some p := hq
     split at hq
     · assumption
     · simp at hq
   · have hlt := (hw0 i x hi).1
     obtain ⟨x', h1, h2⟩ := hp.full i hlt
     rw [hi] at h1; cases h1
     obtain ⟨p, ob, g1, g2, g3, g4, g5⟩ := hR.live _ _ h2
     refine ⟨p, ob, by rw [part_φ hlt]; exact g1, g2, ?_, g4, g5.unren hback (fun _ _ h => h) (hw0 i x hi).2⟩
     rcases za8 E H0 ρ H w p.b with e | ⟨j, y, q, hj, hn, hq, hb⟩
     · rw [e]; exact g3
     · exact absurd (hR.inj _ _ _ _ _ _ h2 hj g1 hq hb.symm) (hn i hlt)
   · have l1 := (hw0 i x hi).1
     have l2 := (hw0 j y hj).1
     rw [part_φ l1] at hpi
     rw [part_φ l2] at hqj
     obtain ⟨_, _, g1⟩ := hp.full i l1
     obtain ⟨_, _, g2⟩ := hp.full j l2
     exact hp.inj i j l1 l2 (hR.inj _ _ _ _ _ _ g1 g2 hpi hqj hb)
  have kn : Knows (E.cut 0) (E.part H0 ρ H w) := ⟨fun i p hp => by simp [Env.cut] at hp, fun _ _ h => h⟩
  refine (h.run _ w vs hR0 ((GRel.cut hG' hG).mono kn) (VRels.unren hback (fun _ _ h => h) hv ha)).mono ?_
  rintro v w' ⟨r, H1, E1, g1, g2, g3, g4⟩
  obtain ⟨hn1, hr1⟩ := hr r H1 g1
  have hKE : ∀ B o, E.K B = some o -> E1.K B = some o := g2.K
  have hF1 : E1.F = (E.part H0 ρ H w).F := g2.F
  have hkn : Knows E { E with K := E1.K } := ⟨fun _ _ h => h, hKE⟩
  have hφ1 : ∀ i p, i < H0.next -> E1.φ i = some p -> E.φ (ρ i) = some p := fun i p hi hq => by
   obtain ⟨x, _, h2⟩ := hp.full i hi
   obtain ⟨q, ob, k1, _⟩ := hR.live _ _ h2
   have := g2.φ i q (by rw [part_φ hi]; exact k1)
   rw [hq] at this; cases this
   exact k1
  have hw1 : H1.Wf := g4.wf
  have find_some : ∀ {j i : Nat}, (List.range H0.next).find? (fun i => ρ i == j) = some i -> i < H0.next /\ ρ i = j := fun h => by
   have h1 := List.mem_of_find?_eq_some h
   have h2 := List.find?_some h
   exact ⟨by simpa using h1, by simpa using h2⟩
  have find_none : ∀ {j : Nat}, (List.range H0.next).find? (fun i => ρ i == j) = none -> ∀ i, i < H0.next -> ρ i ≠ j := fun h i hi => by
   rw [List.find?_eq_none] at h
   simpa using h i (by simpa using hi)
  have patch_live : ∀ {j : Nat} {x : AObj}, (H.patch H1 H0.next ρ).get j = some x -> ∃ y, H.get j = some y := fun {j x} hj => by
   have hj : (match (List.range H0.next).find? (fun i => ρ i == j) with | some i => (H1.get i).map (AObj.ren ρ) | none => H.get j) = some x := hj
   split at hj
   · rename_i i hf
     obtain ⟨f1, rfl⟩ := find_some hf
     obtain ⟨y, _, h2⟩ := hp.full i f1
     exact ⟨_, h2⟩
   · exact ⟨_, hj⟩
  refine ⟨r.ren ρ, H.patch H1 H0.next ρ, { E with K := E1.K }, ⟨r, H1, g1, rfl, rfl⟩, ⟨fun _ _ h => h, hKE, rfl, rfl, rfl⟩, ?_, ?_⟩
  · exact VRel.ren (E := { E with K := E1.K }) hφ1 (fun _ _ h => h) g3 hr1
  · refine ⟨g4.os.trans g2.os, g4.out.trans g2.out, g4.K, fun B o hB => ?_, fun B => ?_, hR.dom, fun j x hj => ?_, fun i j x y p q hi hj hpi hqj hb => ?_⟩
    · refine g4.F B o ?_
      rw [hF1]
      rcases za8 E H0 ρ H w B with e | ⟨j, x, p, hj, hn, hq, rfl⟩
      · rw [e]; exact hB
      · have h2 := (hlive j x p hj hq).2.1
        have hB : E.F p.b = some o := hB
        rw [h2] at hB; simp at hB
    · rcases g4.KF B with e | e
      · exact .inl e
      · rw [hF1] at e
        rcases za8 E H0 ρ H w B with e' | ⟨j, x, p, hj, hn, hq, rfl⟩
        · rw [e'] at e; exact .inr e
        · exact .inr (hlive j x p hj hq).2.1
    · have hj' : (match (List.range H0.next).find? (fun i => ρ i == j) with | some i => (H1.get i).map (AObj.ren ρ) | none => H.get j) = some x := hj
      clear hj
      split at hj'
      · rename_i i hf
        obtain ⟨f1, rfl⟩ := find_some hf
        obtain ⟨x1, hx1, rfl⟩ := Option.map_eq_some_iff.1 hj'
        obtain ⟨p, ob, k1, k2, k3, k4, k5⟩ := g4.live i x1 hx1
        have kφ := hφ1 i p f1 k1
        obtain ⟨y, _, h2⟩ := hp.full i f1
        refine ⟨p, ob, kφ, k2, (hlive _ _ _ h2 kφ).2.1, k4, k5.ren (E := { E with K := E1.K }) hφ1 (fun _ _ h => h) ?_⟩
        rw [<- hn1]
        exact (hw1 i x1 hx1).2
      · rename_i hf
        have hn := find_none hf
        obtain ⟨p, ob, h1, h2, h3, h4, h5⟩ := hR.live j x hj'
        have hF0 : E1.F p.b = some ob := by rw [hF1, part_live hj' hn h1 rfl]; exact h4
        refine ⟨p, ob, h1, ?_, h3, g4.F _ _ hF0, h5.mono hkn⟩
        rcases g4.KF p.b with e | e
        · exact e
        · rw [hF0] at e; simp at e
    · obtain ⟨y1, h1⟩ := patch_live hi
      obtain ⟨y2, h2⟩ := patch_live hj
      exact hR.inj i j _ _ p q h1 h2 hpi hqj hb⟩
def zas (ρ : Nat -> Nat) (m n : Nat) (i : Nat) : Nat := if i < m then ρ i else n + (i - m)
def AHeap.patchNew (H H1 : AHeap) (m : Nat) (ρ : Nat -> Nat) : AHeap := { next := H.next + (H1.next - m), get := fun j => if H.next <= j then (H1.get (m + (j - H.next))).map (AObj.ren (zas ρ m H.next)) else match (List.range m).find? (fun i => ρ i == j) with
 | some i => (H1.get i).map (AObj.ren (zas ρ m H.next))
 | none => H.get j }
theorem Does.partNew {P : Program} {G : Nat -> Option AV} {f : FuncId} {args : List AV} {H0 H : AHeap} {ρ : Nat -> Nat} {R : AV -> AHeap -> Prop} (h : Does P G f args H0 R) (hw0 : H0.Wf) (ha : AV.allLt H0.next args = true)
  (hp : IsPart H0 ρ H) (hG : ∀ g a, G g = some a -> a.idLt 0 = true) (hr : ∀ r H1, R r H1 -> H0.next <= H1.next) :
  Does P G f (AV.rens ρ args) H fun r h => ∃ r0 H1, R r0 H1 /\ r = r0.ren (zas ρ H0.next H.next) /\ h = H.patchNew H1 H0.next ρ :=
 ⟨fun E w vs hR hG' hv => by
  have hlive : ∀ i x p, H.get i = some x -> E.φ i = some p -> E.K p.b = none /\ E.F p.b = none /\ ∃ ob, w.heap[p.b]? = some ob /\ ORel E p x ob := fun i x p hi hp => by
   obtain ⟨q, ob, h1, h2, h3, h4, h5⟩ := hR.live i x hi
   rw [hp] at h1; cases h1
   exact ⟨h2, h3, ob, h4, h5⟩
  have hback : ∀ i p, i < H0.next -> E.φ (ρ i) = some p -> (E.part H0 ρ H w).φ i = some p := fun i p hi hq => by rw [part_φ hi]; exact hq
  have hR0 : Rel (E.part H0 ρ H w) H0 w := by
   refine ⟨hR.os, hR.out, hR.K, fun B o hB => ?_, fun B => ?_, fun i p hq => ?_, fun i x hi => ?_, fun i j x y p q hi hj hpi hqj hb => ?_⟩
   · rcases za8 E H0 ρ H w B with e | ⟨j, x, p, hj, hn, hq, rfl⟩
     · rw [e] at hB; exact hR.F B o hB
     · rw [part_live hj hn hq rfl] at hB; exact hB
   · rcases za8 E H0 ρ H w B with e | ⟨j, x, p, hj, hn, hq, rfl⟩
     · rw [e]; exact hR.KF B
     · exact .inl (hlive j x p hj hq).1
   · have hq : (if i < H0.next then E.φ (ρ i) else none) = some p := hq
     split at hq
     · assumption
     · simp at hq
   · have hlt := (hw0 i x hi).1
     obtain ⟨x', h1, h2⟩ := hp.full i hlt
     rw [hi] at h1; cases h1
     obtain ⟨p, ob, g1, g2, g3, g4, g5⟩ := hR.live _ _ h2
     refine ⟨p, ob, by rw [part_φ hlt]; exact g1, g2, ?_, g4, g5.unren hback (fun _ _ h => h) (hw0 i x hi).2⟩
     rcases za8 E H0 ρ H w p.b with e | ⟨j, y, q, hj, hn, hq, hb⟩
     · rw [e]; exact g3
     · exact absurd (hR.inj _ _ _ _ _ _ h2 hj g1 hq hb.symm) (hn i hlt)
   · have l1 := (hw0 i x hi).1
     have l2 := (hw0 j y hj).1
     rw [part_φ l1] at hpi
     rw [part_φ l2] at hqj
     obtain ⟨_, _, g1⟩ := hp.full i l1
     obtain ⟨_, _, g2⟩ := hp.full j l2
     exact hp.inj i j l1 l2 (hR.inj _ _ _ _ _ _ g1 g2 hpi hqj hb)
  have kn : Knows (E.cut 0) (E.part H0 ρ H w) := ⟨fun i p hp => by simp [Env.cut] at hp, fun _ _ h => h⟩
  refine (h.run _ w vs hR0 ((GRel.cut hG' hG).mono kn) (VRels.unren hback (fun _ _ h => h) hv ha)).mono ?_
  rintro v w' ⟨r, H1, E1, g1, g2, g3, g4⟩
  have hn1 := hr r H1 g1
  have hKE : ∀ B o, E.K B = some o -> E1.K B = some o := g2.K
  have hF1 : E1.F = (E.part H0 ρ H w).F := g2.F
  have hρlt : ∀ i, i < H0.next -> ρ i < H.next := fun i hi => by
   obtain ⟨x, _, h2⟩ := hp.full i hi
   exact hR.lt h2
  have hφ1 : ∀ i p, i < H0.next -> E1.φ i = some p -> E.φ (ρ i) = some p := fun i p hi hq => by
   obtain ⟨x, _, h2⟩ := hp.full i hi
   obtain ⟨q, ob, k1, _⟩ := hR.live _ _ h2
   have := g2.φ i q (by rw [part_φ hi]; exact k1)
   rw [hq] at this; cases this
   exact k1
  obtain ⟨E2, hE2⟩ : ∃ E2 : Env, E2 = { φ := fun j => if j < H.next then E.φ j else E1.φ (H0.next + (j - H.next)), K := E1.K, F := E.F, os := E.os, out := E.out } := ⟨_, rfl⟩
  have e2φ : ∀ j, E2.φ j = if j < H.next then E.φ j else E1.φ (H0.next + (j - H.next)) := fun j => by rw [hE2]
  have e2K : E2.K = E1.K := by rw [hE2]
  have e2F : E2.F = E.F := by rw [hE2]
  have e2o : E2.os = E.os := by rw [hE2]
  have e2u : E2.out = E.out := by rw [hE2]
  clear hE2
  have hφ2 : ∀ i p, i < H1.next -> E1.φ i = some p -> E2.φ (zas ρ H0.next H.next i) = some p := fun i p hi hq => by
   unfold zas
   rw [e2φ]
   by_cases hm : i < H0.next
   · rw [if_pos hm, if_pos (hρlt i hm)]; exact hφ1 i p hm hq
   · rw [if_neg hm, if_neg (by omega), show H0.next + (H.next + (i - H0.next) - H.next) = i by omega]; exact hq
  have hK2 : ∀ B o, E1.K B = some o -> E2.K B = some o := fun B o hB => by rw [e2K]; exact hB
  have hx : Ext E E2 := ⟨fun i p hi => by rw [e2φ, if_pos (hR.dom i p hi)]; exact hi, fun B o hB => by rw [e2K]; exact hKE B o hB, e2F, e2o, e2u⟩
  have hw1 : H1.Wf := g4.wf
  have find_some : ∀ {j i : Nat}, (List.range H0.next).find? (fun i => ρ i == j) = some i -> i < H0.next /\ ρ i = j := fun h => by
   have h1 := List.mem_of_find?_eq_some h
   have h2 := List.find?_some h
   exact ⟨by simpa using h1, by simpa using h2⟩
  have find_none : ∀ {j : Nat}, (List.range H0.next).find? (fun i => ρ i == j) = none -> ∀ i, i < H0.next -> ρ i ≠ j := fun h i hi => by
   rw [List.find?_eq_none] at h
   simpa using h i (by simpa using hi)
  -- where a block of the new heap comes from
  have from_ : ∀ {j : Nat} {x : AObj} {p : Place}, (H.patchNew H1 H0.next ρ).get j = some x -> E2.φ j = some p ->
    (∃ i x1, H1.get i = some x1 /\ x = x1.ren (zas ρ H0.next H.next) /\ E1.φ i = some p /\ zas ρ H0.next H.next i = j) \/ ((∀ i, i < H0.next -> ρ i ≠ j) /\ j < H.next /\ H.get j = some x /\ E.φ j = some p) := fun {j x p} hj hq => by
   have hj' : (if H.next <= j then (H1.get (H0.next + (j - H.next))).map (AObj.ren (zas ρ H0.next H.next)) else match (List.range H0.next).find? (fun i => ρ i == j) with | some i => (H1.get i).map (AObj.ren (zas ρ H0.next H.next)) | none => H.get j) = some x := hj
   clear hj
   rw [e2φ] at hq
   by_cases hlt : H.next <= j
   · rw [if_pos hlt] at hj'
     rw [if_neg (by omega)] at hq
     obtain ⟨x1, hx1, rfl⟩ := Option.map_eq_some_iff.1 hj'
     exact .inl ⟨_, x1, hx1, rfl, hq, by unfold zas; rw [if_neg (by omega)]; omega⟩
   · rw [if_neg hlt] at hj'
     rw [if_pos (by omega)] at hq
     split at hj'
     · rename_i i hf
       obtain ⟨f1, rfl⟩ := find_some hf
       obtain ⟨x1, hx1, rfl⟩ := Option.map_eq_some_iff.1 hj'
       obtain ⟨p1, ob, k1, _⟩ := g4.live i x1 hx1
       have := hφ1 i p1 f1 k1
       rw [hq] at this; cases this
       exact .inl ⟨i, x1, hx1, rfl, k1, by unfold zas; rw [if_pos f1]⟩
     · rename_i hf
       exact .inr ⟨find_none hf, by omega, hj', hq⟩
  have has_ : ∀ {j : Nat} {x : AObj}, (H.patchNew H1 H0.next ρ).get j = some x -> ∃ p, E2.φ j = some p := fun {j x} hj => by
   have hj' : (if H.next <= j then (H1.get (H0.next + (j - H.next))).map (AObj.ren (zas ρ H0.next H.next)) else match (List.range H0.next).find? (fun i => ρ i == j) with | some i => (H1.get i).map (AObj.ren (zas ρ H0.next H.next)) | none => H.get j) = some x := hj
   clear hj
   rw [e2φ]
   by_cases hlt : H.next <= j
   · rw [if_pos hlt] at hj'
     rw [if_neg (by omega)]
     obtain ⟨x1, hx1, rfl⟩ := Option.map_eq_some_iff.1 hj'
     obtain ⟨p, ob, k1, _⟩ := g4.live _ x1 hx1
     exact ⟨p, k1⟩
   · rw [if_neg hlt] at hj'
     rw [if_pos (by omega)]
     split at hj'
     · rename_i i hf
       obtain ⟨f1, rfl⟩ := find_some hf
       obtain ⟨x1, hx1, rfl⟩ := Option.map_eq_some_iff.1 hj'
       obtain ⟨p1, ob, k1, _⟩ := g4.live i x1 hx1
       exact ⟨p1, hφ1 i p1 f1 k1⟩
     · obtain ⟨p, ob, k1, _⟩ := hR.live j x hj'
       exact ⟨p, k1⟩
  refine ⟨r.ren (zas ρ H0.next H.next), H.patchNew H1 H0.next ρ, E2, ⟨r, H1, g1, rfl, rfl⟩, hx, ?_, ?_⟩
  · exact VRel.ren (E := E2) hφ2 hK2 g3 (VRel.idLt g4.dom g3)
  · refine ⟨by rw [e2o]; exact g4.os.trans g2.os, by rw [e2u]; exact g4.out.trans g2.out, fun B o hB => g4.K B o (by rw [<- e2K]; exact hB), fun B o hB => ?_, fun B => ?_, fun j p hq => ?_, fun j x hj => ?_, fun i j x y p q hi hj hpi hqj hb => ?_⟩
    · refine g4.F B o ?_
      rw [hF1]
      rw [e2F] at hB
      rcases za8 E H0 ρ H w B with e | ⟨j, x, p, hj, hn, hq, rfl⟩
      · rw [e]; exact hB
      · have h2 := (hlive j x p hj hq).2.1
        rw [h2] at hB; simp at hB
    · rw [e2K, e2F]
      rcases g4.KF B with e | e
      · exact .inl e
      · rw [hF1] at e
        rcases za8 E H0 ρ H w B with e' | ⟨j, x, p, hj, hn, hq, rfl⟩
        · rw [e'] at e; exact .inr e
        · exact .inr (hlive j x p hj hq).2.1
    · show j < H.next + (H1.next - H0.next)
      rw [e2φ] at hq
      split at hq
      · omega
      · have := g4.dom _ _ hq; omega
    · obtain ⟨p, hq⟩ := has_ hj
      rcases from_ hj hq with ⟨i, x1, hx1, rfl, hi, hij⟩ | ⟨hn, hlt, hj', hq'⟩
      · obtain ⟨p', ob, k1, k2, k3, k4, k5⟩ := g4.live i x1 hx1
        rw [hi] at k1; cases k1
        refine ⟨p, ob, hq, by rw [e2K]; exact k2, ?_, k4, k5.ren (E := E2) hφ2 hK2 (hw1 i x1 hx1).2⟩
        rw [e2F]
        cases hEF : E.F p.b with
        | none => rfl
        | some o =>
          have : E1.F p.b = some o := by
           rw [hF1]
           rcases za8 E H0 ρ H w p.b with e | ⟨j', x', p', hj', hn', hq', hb'⟩
           · rw [e]; exact hEF
           · have h2 := (hlive j' x' p' hj' hq').2.1
             rw [hb'] at h2
             rw [h2] at hEF; simp at hEF
          rw [k3] at this; simp at this
      · obtain ⟨p', ob, h1, h2, h3, h4, h5⟩ := hR.live j x hj'
        rw [hq'] at h1; cases h1
        have hF0 : E1.F p.b = some ob := by rw [hF1, part_live hj' hn hq' rfl]; exact h4
        refine ⟨p, ob, hq, ?_, by rw [e2F]; exact h3, g4.F _ _ hF0, h5.mono hx.knows⟩
        rw [e2K]
        rcases g4.KF p.b with e | e
        · exact e
        · rw [hF0] at e; simp at e
    · have mix : ∀ {i : Nat} {x1 : AObj} {p : Place} {j : Nat} {y : AObj} {q : Place}, H1.get i = some x1 -> E1.φ i = some p -> (∀ i, i < H0.next -> ρ i ≠ j) -> H.get j = some y -> E.φ j = some q -> p.b = q.b -> False := fun {i x1 p j y q} a1 a2 a3 a4 a5 a6 => by
       obtain ⟨p', ob, k1, k2, k3, k4, k5⟩ := g4.live i x1 a1
       rw [a2] at k1; cases k1
       obtain ⟨_, _, ob', b1, _⟩ := hlive j y q a4 a5
       have : E1.F p.b = some ob' := by rw [hF1, part_live a4 a3 a5 a6.symm, a6]; exact b1
       rw [k3] at this; simp at this
      rcases from_ hi hpi with ⟨i1, x1, c1, rfl, c2, c3⟩ | ⟨c1, c2, c3, c4⟩ <;> rcases from_ hj hqj with ⟨j1, y1, d1, rfl, d2, d3⟩ | ⟨d1, d2, d3, d4⟩
      · rw [<- c3, <- d3, g4.inj i1 j1 _ _ p q c1 d1 c2 d2 hb]
      · exact (mix c1 c2 d1 d3 d4 hb).elim
      · exact (mix d1 d2 c1 c3 c4 hb.symm).elim
      · exact hR.inj i j _ _ p q c3 d3 c4 d4 hb⟩
def AHeap.ofList (l : List AObj) : AHeap := { next := l.length, get := fun j => l[j]? }
theorem ofList_push (l : List AObj) (x : AObj) : (AHeap.ofList l).push x = AHeap.ofList (l ++ [x]) := by
 refine AHeap.ext' (by simp [AHeap.ofList, AHeap.push]) fun j => ?_
 show (if j = l.length then some x else l[j]?) = (l ++ [x])[j]?
 by_cases h : j = l.length
 · subst h; simp
 · rw [if_neg h]
   by_cases h2 : j < l.length
   · rw [List.getElem?_append_left h2]
   · rw [List.getElem?_eq_none (by omega), List.getElem?_eq_none (by simp; omega)]
theorem ofList_foldl : ∀ (l l0 : List AObj), l.foldl AHeap.push (AHeap.ofList l0) = AHeap.ofList (l0 ++ l)
 | [], l0 => by simp
 | x :: l, l0 => by rw [List.foldl_cons, ofList_push, ofList_foldl l]; simp
theorem ofList_nil : AHeap.empty 0 = AHeap.ofList [] := AHeap.ext' rfl fun j => by simp [AHeap.empty, AHeap.ofList]
noncomputable def heapK (l : List AObj) : FH -> (FH -> Bool) -> Bool := List.rec (motive := fun _ => FH -> (FH -> Bool) -> Bool) (fun H k => k H) (fun x _ ih H k => H.newX x (fun _ H => ih H k) false) l
theorem heapK_inv : ∀ {l : List AObj} {H : FH} {k : FH -> Bool}, heapK l H k = true -> ∃ H' : FH, H'.abs = l.foldl AHeap.push H.abs /\ k H' = true
 | [], H, k, h => ⟨H, rfl, h⟩
 | x :: l, H, k, h => by
   have h : H.newX x (fun _ H => heapK l H k) false = true := h
   obtain ⟨H1, h1, h2⟩ := FH.newX_inv h
   obtain ⟨H', h3, h4⟩ := heapK_inv h2
   exact ⟨H', by rw [h3, h1]; rfl, h4⟩
def AV.resN (m : Nat) (get : Nat -> Option AObj) : Nat -> AV -> Option AV
 | 0, _ => none
 | n + 1, v => match v with
   | .ptr i o => match Nat.blt i m, get i with
     | false, some (.cells cs) => (zaw ((cs.drop o).map (AV.resN m get n))).map .vptr
     | _, _ => none
   | .sl i o z len _ _ => match Nat.blt i m, get i with
     | false, some (.cells cs) => (zaw (((cs.drop o).take (len * z)).map (AV.resN m get n))).map (.vsl · len)
     | _, _ => none
   | .vptr cs => (zaw (cs.map (AV.resN m get n))).map .vptr
   | .vsl cs len => (zaw (cs.map (AV.resN m get n))).map (.vsl · len)
   | .agg cs => (zaw (cs.map (AV.resN m get n))).map .agg
   | .tuple cs => (zaw (cs.map (AV.resN m get n))).map .tuple
   | .bool b => some (.bool b)
   | .int k x => some (.int k x)
   | .str s => some (.str s)
   | .nilptr => some .nilptr
   | .nilsl => some .nilsl
   | .nilmap => some .nilmap
   | .nilfunc => some .nilfunc
   | .niliface => some .niliface
   | _ => none
theorem resN_list {m n : Nat} {get : Nat -> Option AObj} (ih : ∀ v r, AV.resN m get n v = some r -> ResV get m v r) : ∀ {vs rs : List AV}, zaw (vs.map (AV.resN m get n)) = some rs -> ResL get m vs rs
 | [], rs, h => by simp [zaw] at h; subst h; exact .nil
 | v :: vs, rs, h => by
   simp only [List.map_cons] at h
   cases hv : AV.resN m get n v with
   | none => rw [hv] at h; simp [zaw] at h
   | some a =>
     rw [hv] at h
     simp only [zaw, Option.map_eq_some_iff] at h
     obtain ⟨l, hl, rfl⟩ := h
     exact .cons (ih _ _ hv) (resN_list ih hl)
theorem resN_resV {m : Nat} {get : Nat -> Option AObj} : ∀ (n : Nat) (v r : AV), AV.resN m get n v = some r -> ResV get m v r
 | 0, v, r, h => by simp [AV.resN] at h
 | n + 1, v, r, h => by
   have ih := resN_resV (m := m) (get := get) n
   have blt : ∀ i, Nat.blt i m = false -> m <= i := fun i hi => by
    rcases Nat.lt_or_ge i m with g | g
    · have : Nat.blt i m = true := by rw [Nat.blt_eq]; exact g
      rw [this] at hi; simp at hi
    · exact g
   cases v with
   | ptr i o =>
     simp only [AV.resN] at h
     split at h <;> try (simp at h; done)
     rename_i cs h1 h2
     simp only [Option.map_eq_some_iff] at h
     obtain ⟨rs, h, rfl⟩ := h
     exact .ptr (blt i h1) h2 (resN_list ih h)
   | sl i o z len cap opn =>
     simp only [AV.resN] at h
     split at h <;> try (simp at h; done)
     rename_i cs h1 h2
     simp only [Option.map_eq_some_iff] at h
     obtain ⟨rs, h, rfl⟩ := h
     exact .sl (blt i h1) h2 (resN_list ih h)
   | vptr cs =>
     simp only [AV.resN, Option.map_eq_some_iff] at h
     obtain ⟨rs, h, rfl⟩ := h
     exact .vptr (resN_list ih h)
   | vsl cs len =>
     simp only [AV.resN, Option.map_eq_some_iff] at h
     obtain ⟨rs, h, rfl⟩ := h
     exact .vsl (resN_list ih h)
   | agg cs =>
     simp only [AV.resN, Option.map_eq_some_iff] at h
     obtain ⟨rs, h, rfl⟩ := h
     exact .agg (resN_list ih h)
   | tuple cs =>
     simp only [AV.resN, Option.map_eq_some_iff] at h
     obtain ⟨rs, h, rfl⟩ := h
     exact .tuple (resN_list ih h)
   | bool b => simp [AV.resN] at h; subst h; exact .old rfl
   | int k x => simp [AV.resN] at h; subst h; exact .old rfl
   | str s => simp [AV.resN] at h; subst h; exact .old rfl
   | nilptr => simp [AV.resN] at h; subst h; exact .old rfl
   | nilsl => simp [AV.resN] at h; subst h; exact .old rfl
   | nilmap => simp [AV.resN] at h; subst h; exact .old rfl
   | nilfunc => simp [AV.resN] at h; subst h; exact .old rfl
   | niliface => simp [AV.resN] at h; subst h; exact .old rfl
   | map i => simp [AV.resN] at h
   | csl c n => simp [AV.resN] at h
   | func f a b => simp [AV.resN] at h
   | iface t v => simp [AV.resN] at h
def heapOk (n : Nat) (l : List AObj) : Bool := l.all fun x => AV.allLt n x.cellsList
theorem heapOk_wf {l : List AObj} (h : heapOk l.length l = true) : (AHeap.ofList l).Wf := fun i x hi => by
 have hi : l[i]? = some x := hi
 refine ⟨?_, ?_⟩
 · show i < l.length
   rcases Nat.lt_or_ge i l.length with g | g
   · exact g
   · rw [List.getElem?_eq_none g] at hi; simp at hi
 · unfold heapOk at h
   rw [List.all_eq_true] at h
   exact h x (List.mem_of_getElem? hi)
theorem tick_does {P : Program} {G : Nat -> Option AV} {ov : Ov} {f : FuncId} {fuel n : Nat} (hm : P.follows .mixedOrders = true) (hp : plainFn P = true) (hov : zaW P G ov) {g g' : List AObj} {args : List AV} {r : AV}
  (hl : g'.length = g.length) (hg' : heapOk g.length g' = true)
  (h : ∀ Q : Option AV -> List (Option AObj) -> Bool, heapK g FH.empty (fun H => fcall ov P G fuel n f args H fun v H' => Q (v.resN g.length H'.abs.get 1000) ((List.range g.length).map H'.abs.get)) = Q (some r) (g'.map some)) :
  Does P G f args (AHeap.ofList g) fun x H => x = r /\ H = AHeap.ofList g' := by
 classical
 have h1 := h fun a b => decide (a = some r /\ b = g'.map some)
 simp only [and_self, decide_true] at h1
 obtain ⟨H, hH, h2⟩ := heapK_inv h1
 rw [FH.abs_empty, ofList_nil, ofList_foldl, List.nil_append] at hH
 obtain ⟨v, H', hd, _, hk⟩ := fcall_sound hm hp hov n f args H _ h2
 rw [hH] at hd
 simp only [decide_eq_true_eq] at hk
 obtain ⟨k1, k2⟩ := hk
 refine Does.deep hd ?_
 rintro hw ha x H1 ⟨rfl, rfl⟩
 refine ⟨r, AHeap.ofList g', resN_resV _ _ _ k1, hl, fun i x hi => ?_, rfl, rfl⟩
 have hi : g'[i]? = some x := hi
 have hlt : i < g'.length := by
  rcases Nat.lt_or_ge i g'.length with q | q
  · exact q
  · rw [List.getElem?_eq_none q] at hi; simp at hi
 refine ⟨?_, by show i < g.length; omega, ?_⟩
 · have := congrArg (fun l => l[i]?) k2
   simp only [List.getElem?_map, List.getElem?_range (show i < g.length by omega), Option.map_some, hi, Option.some.injEq] at this
   exact this
 · unfold heapOk at hg'
   rw [List.all_eq_true] at hg'
   exact hg' x (List.mem_of_getElem? hi)
theorem patch_off {H H1 : AHeap} {m : Nat} {ρ : Nat -> Nat} {j : Nat} (h : ∀ i, i < m -> ρ i ≠ j) : (H.patch H1 m ρ).get j = H.get j := by
 show (match (List.range m).find? (fun i => ρ i == j) with | some i => (H1.get i).map (AObj.ren ρ) | none => H.get j) = H.get j
 have : (List.range m).find? (fun i => ρ i == j) = none := by
  rw [List.find?_eq_none]
  intro i hi
  simpa using h i (by simpa using hi)
 rw [this]
theorem patch_on {H H1 : AHeap} {m : Nat} {ρ : Nat -> Nat} (hinj : ∀ i j, i < m -> j < m -> ρ i = ρ j -> i = j) {i : Nat} (hi : i < m) : (H.patch H1 m ρ).get (ρ i) = (H1.get i).map (AObj.ren ρ) := by
 show (match (List.range m).find? (fun k => ρ k == ρ i) with | some i => (H1.get i).map (AObj.ren ρ) | none => H.get (ρ i)) = _
 cases hf : (List.range m).find? (fun k => ρ k == ρ i) with
 | none =>
   rw [List.find?_eq_none] at hf
   have := hf i (by simpa using hi)
   simp at this
 | some k =>
   have h1 := List.mem_of_find?_eq_some hf
   have h2 := List.find?_some hf
   have : k = i := hinj k i (by simpa using h1) hi (by simpa using h2)
   rw [this]
mutual
theorem AV.ren_ren (ρ τ : Nat -> Nat) : ∀ v : AV, (v.ren ρ).ren τ = v.ren fun i => τ (ρ i)
 | .bool _ => rfl
 | .int _ _ => rfl
 | .str _ => rfl
 | .nilptr => rfl
 | .ptr _ _ => rfl
 | .vptr cs => by simp only [AV.ren]; rw [AV.rens_rens ρ τ cs]
 | .nilsl => rfl
 | .sl _ _ _ _ _ _ => rfl
 | .vsl cs n => by simp only [AV.ren]; rw [AV.rens_rens ρ τ cs]
 | .nilmap => rfl
 | .map _ => rfl
 | .func f a b => by simp only [AV.ren]; rw [AV.rens_rens ρ τ a, AV.rens_rens ρ τ b]
 | .nilfunc => rfl
 | .iface t v => by simp only [AV.ren]; rw [AV.ren_ren ρ τ v]
 | .niliface => rfl
 | .agg cs => by simp only [AV.ren]; rw [AV.rens_rens ρ τ cs]
 | .tuple cs => by simp only [AV.ren]; rw [AV.rens_rens ρ τ cs]
 | .csl cs n => by simp only [AV.ren]; rw [AV.rens_rens ρ τ cs]
theorem AV.rens_rens (ρ τ : Nat -> Nat) : ∀ l : List AV, AV.rens τ (AV.rens ρ l) = AV.rens (fun i => τ (ρ i)) l
 | [] => rfl
 | a :: l => by simp only [AV.rens]; rw [AV.ren_ren ρ τ a, AV.rens_rens ρ τ l]
end
mutual
theorem AV.ren_id {ρ : Nat -> Nat} {m : Nat} (h : ∀ i, i < m -> ρ i = i) : ∀ v : AV, v.idLt m = true -> v.ren ρ = v
 | .bool _, _ => rfl
 | .int _ _, _ => rfl
 | .str _, _ => rfl
 | .nilptr, _ => rfl
 | .ptr i o, hv => by rw [AV.ren, h i (by simpa [AV.idLt] using hv)]
 | .vptr cs, hv => by rw [AV.ren, AV.rens_id h cs (by simpa [AV.idLt] using hv)]
 | .nilsl, _ => rfl
 | .sl i _ _ _ _ _, hv => by rw [AV.ren, h i (by simpa [AV.idLt] using hv)]
 | .vsl cs n, hv => by rw [AV.ren, AV.rens_id h cs (by simpa [AV.idLt] using hv)]
 | .nilmap, _ => rfl
 | .map i, hv => by rw [AV.ren, h i (by simpa [AV.idLt] using hv)]
 | .func f a b, hv => by
   simp only [AV.idLt, Bool.and_eq_true] at hv
   rw [AV.ren, AV.rens_id h a hv.1, AV.rens_id h b hv.2]
 | .nilfunc, _ => rfl
 | .iface t v, hv => by rw [AV.ren, AV.ren_id h v (by simpa [AV.idLt] using hv)]
 | .niliface, _ => rfl
 | .agg cs, hv => by rw [AV.ren, AV.rens_id h cs (by simpa [AV.idLt] using hv)]
 | .tuple cs, hv => by rw [AV.ren, AV.rens_id h cs (by simpa [AV.idLt] using hv)]
 | .csl cs n, hv => by rw [AV.ren, AV.rens_id h cs (by simpa [AV.idLt] using hv)]
theorem AV.rens_id {ρ : Nat -> Nat} {m : Nat} (h : ∀ i, i < m -> ρ i = i) : ∀ l : List AV, AV.allLt m l = true -> AV.rens ρ l = l
 | [], _ => rfl
 | a :: l, hl => by
   simp only [AV.allLt, Bool.and_eq_true] at hl
   rw [AV.rens, AV.ren_id h a hl.1, AV.rens_id h l hl.2]
end
theorem tick_part {P : Program} {G : Nat -> Option AV} {f : FuncId} {l l' : List AObj} {i0 : Nat} {args : List AV} {y : AV} (h : Does P G f (.ptr i0 0 :: args) (AHeap.ofList l) fun r H => r = y /\ H = AHeap.ofList l')
  (hi : i0 < l.length) (hl : l'.length = l.length) (hok : heapOk l.length l = true) (ha : ∀ n, AV.allLt n args = true) (hy : ∀ n, y.idLt n = true) (hG : ∀ g a, G g = some a -> a.idLt 0 = true) {H : AHeap} {ρ : Nat -> Nat} (hp : IsPart (AHeap.ofList l) ρ H) :
  Does P G f (.ptr (ρ i0) 0 :: args) H fun r h => r = y /\ h = H.patch (AHeap.ofList l') l.length ρ := by
 have h1 := h.part (heapOk_wf hok) (by
  simp only [AV.allLt, Bool.and_eq_true]
  refine ⟨?_, ha _⟩
  have hi : i0 < (AHeap.ofList l).next := hi
  rw [AV.idLt]
  simpa using hi) hp hG fun r H1 ⟨e1, e2⟩ => ⟨by rw [e2]; exact hl, by rw [e1]; exact hy _⟩
 rw [AV.rens, AV.ren, AV.rens_id (m := 0) (fun i hi => absurd hi (Nat.not_lt_zero i)) args (ha _)] at h1
 refine h1.mono ?_
 rintro r hh ⟨r0, H1, ⟨rfl, rfl⟩, rfl, rfl⟩
 exact ⟨AV.ren_id (m := 0) (fun i hi => absurd hi (Nat.not_lt_zero i)) _ (hy _), rfl⟩
theorem patch_same {l : List AObj} {H : AHeap} {ρ : Nat -> Nat} (hp : IsPart (AHeap.ofList l) ρ H) : H.patch (AHeap.ofList l) l.length ρ = H := by
 refine AHeap.ext' rfl fun j => ?_
 by_cases h : ∃ i, i < l.length /\ ρ i = j
 · obtain ⟨i, hi, rfl⟩ := h
   rw [patch_on (m := l.length) hp.inj hi]
   obtain ⟨x, h1, h2⟩ := hp.full i hi
   rw [h1, h2]; rfl
 · exact patch_off fun i hi e => h ⟨i, hi, e⟩
theorem part_one {cs : List AV} {H : AHeap} {k : Nat} (hk : H.get k = some (.cells cs)) (h0 : AV.allLt 0 cs = true) : IsPart (AHeap.ofList [.cells cs]) (fun _ => k) H := by
 refine ⟨fun i hi => ?_, fun i j hi hj _ => ?_⟩
 · have hi : i < 1 := hi
   obtain rfl : i = 0 := by omega
   refine ⟨.cells cs, rfl, ?_⟩
   rw [hk, AObj.ren, AV.rens_id (m := 0) (fun i hi => absurd hi (Nat.not_lt_zero i)) cs h0]
 · have hi : i < 1 := hi
   have hj : j < 1 := hj
   omega
theorem patchNew_off {H H1 : AHeap} {m : Nat} {ρ : Nat -> Nat} {j : Nat} (hj : j < H.next) (h : ∀ i, i < m -> ρ i ≠ j) : (H.patchNew H1 m ρ).get j = H.get j := by
 show (if H.next <= j then _ else match (List.range m).find? (fun i => ρ i == j) with | some i => (H1.get i).map (AObj.ren (zas ρ m H.next)) | none => H.get j) = H.get j
 rw [if_neg (by omega)]
 have : (List.range m).find? (fun i => ρ i == j) = none := by
  rw [List.find?_eq_none]
  intro i hi
  simp only [List.mem_range] at hi
  simpa using h i hi
 rw [this]
theorem patchNew_old {H H1 : AHeap} {m : Nat} {ρ : Nat -> Nat} (hinj : ∀ i j, i < m -> j < m -> ρ i = ρ j -> i = j) {i : Nat} (hi : i < m) (hlt : ρ i < H.next) : (H.patchNew H1 m ρ).get (ρ i) = (H1.get i).map (AObj.ren (zas ρ m H.next)) := by
 show (if H.next <= ρ i then _ else match (List.range m).find? (fun k => ρ k == ρ i) with | some i => (H1.get i).map (AObj.ren (zas ρ m H.next)) | none => H.get (ρ i)) = _
 rw [if_neg (by omega)]
 cases hf : (List.range m).find? (fun k => ρ k == ρ i) with
 | none =>
   rw [List.find?_eq_none] at hf
   have := hf i (by simpa using hi)
   simp at this
 | some k =>
   have h1 := List.mem_of_find?_eq_some hf
   have h2 := List.find?_some hf
   have : k = i := hinj k i (by simpa using h1) hi (by simpa using h2)
   rw [this]
theorem patchNew_new {H H1 : AHeap} {m : Nat} {ρ : Nat -> Nat} {i : Nat} (hi : m <= i) : (H.patchNew H1 m ρ).get (H.next + (i - m)) = (H1.get i).map (AObj.ren (zas ρ m H.next)) := by
 show (if H.next <= H.next + (i - m) then (H1.get (m + (H.next + (i - m) - H.next))).map (AObj.ren (zas ρ m H.next)) else _) = _
 rw [if_pos (Nat.le_add_right _ _), show m + (H.next + (i - m) - H.next) = i by omega]
theorem part_new {P : Program} {G : Nat -> Option AV} {ov : Ov} {f : FuncId} {fuel n : Nat} (hm : P.follows .mixedOrders = true) (hp : plainFn P = true) (hov : zaW P G ov) (hG : ∀ g a, G g = some a -> a.idLt 0 = true) {g : List AObj} {args : List AV} {r : AV} {perm : List Nat} {objs : List AObj}
  (hok : heapOk g.length g = true) (ha : AV.allLt g.length args = true) (hl : objs.length = perm.length)
  (h : ∀ Q : AV -> List (Option AObj) -> Bool, heapK g FH.empty (fun H => fcall ov P G fuel n f args H fun v H' => Q v (perm.map H'.abs.get)) = Q r (objs.map some))
  {H : AHeap} {ρ : Nat -> Nat} (hpt : IsPart (AHeap.ofList g) ρ H) :
  Does P G f (AV.rens ρ args) H fun x h => x = r.ren (zas ρ g.length H.next) /\ (∀ k (hk : k < perm.length), h.get (zas ρ g.length H.next perm[k]) = some ((objs[k]'(by omega)).ren (zas ρ g.length H.next))) /\
   (∀ j y, (∀ i, i < g.length -> ρ i ≠ j) -> H.get j = some y -> h.get j = some y) /\ H.next <= h.next := by
 classical
 refine Does.wfs fun hw _ => ?_
 have h2 := h fun a b => decide (a = r /\ b = objs.map some)
 simp only [and_self, decide_true] at h2
 obtain ⟨H0, hH, h3⟩ := heapK_inv h2
 rw [FH.abs_empty, ofList_nil, ofList_foldl, List.nil_append] at hH
 obtain ⟨v, H', hd, hnx, hk3⟩ := fcall_sound hm hp hov n f _ H0 _ h3
 rw [hH] at hd
 simp only [decide_eq_true_eq] at hk3
 obtain ⟨rfl, hk3⟩ := hk3
 have h4 := hd.partNew (heapOk_wf (l := g) hok) ha hpt hG fun r H1 ⟨_, e2⟩ => by
  rw [e2]
  have hn : H0.next = (AHeap.ofList g).next := congrArg AHeap.next hH
  rw [<- hn]; exact hnx
 have hn0 : (AHeap.ofList g).next = g.length := rfl
 rw [hn0] at h4
 refine h4.mono ?_
 rintro x hh ⟨r0, H1, ⟨rfl, rfl⟩, rfl, rfl⟩
 refine ⟨rfl, fun k hk => ?_, fun j y hj hy => ?_, Nat.le_add_right _ _⟩
 · have e1 := congrArg (fun l => l[k]?) hk3
   simp only [List.getElem?_map, List.getElem?_eq_getElem hk, List.getElem?_eq_getElem (show k < objs.length by omega), Option.map_some, Option.some.injEq] at e1
   unfold zas
   by_cases hlt : perm[k] < g.length
   · rw [if_pos hlt]
     obtain ⟨y, _, hy⟩ := hpt.full _ hlt
     have := (hw _ _ hy).1
     rw [patchNew_old (m := g.length) hpt.inj hlt this, e1]; rfl
   · rw [if_neg hlt, patchNew_new (by omega), e1]; rfl
 · rw [patchNew_off (hw _ _ hy).1 hj]
   exact hy
end Go.Abs
namespace Go.Abs
open Go Go.RowKit
noncomputable def idxK (k : Int -> Bool) (s : List UInt8) : Nat -> Nat -> Bool :=
 List.rec (motive := fun _ => Nat -> Nat -> Bool) (fun _ _ => k (Int.negSucc 0)) (fun b _ ih c i => ifK (Nat.beq b.toNat c) (k (Int.ofNat i)) (natK (Nat.succ i) fun i => ih c i)) s
theorem indexByte_cases (b : UInt8) (l : List UInt8) (c : UInt8) : Go.Lib.indexByte (b :: l) c = if b = c then 0 else if Go.Lib.indexByte l c = -1 then -1 else Go.Lib.indexByte l c + 1 := by
 simp [Go.Lib.indexByte]
theorem idxK_inv {k : Int -> Bool} {c : UInt8} : ∀ (s : List UInt8) (i : Nat), idxK k s c.toNat i = true -> k (if Go.Lib.indexByte s c = -1 then -1 else Go.Lib.indexByte s c + i) = true
 | [], i, h => h
 | b :: l, i, h => by
   have h : ifK (Nat.beq b.toNat c.toNat) (k (Int.ofNat i)) (natK (Nat.succ i) fun i => idxK k l c.toNat i) = true := h
   rw [indexByte_cases]
   by_cases e : b = c
   · subst e
     have e1 : Nat.beq b.toNat b.toNat = true := Nat.beq_refl _
     rw [e1, ifK_true] at h
     simpa using h
   · have e1 : Nat.beq b.toNat c.toNat = false := by
      cases h' : Nat.beq b.toNat c.toNat with
      | false => rfl
      | true => exact absurd (UInt8.toNat_inj.1 (Nat.eq_of_beq_eq_true h')) e
     rw [e1, zaI, za5] at h
     have := idxK_inv l (i + 1) h
     rw [if_neg e]
     have hge := Go.Lib.indexByte_ge l c
     by_cases e2 : Go.Lib.indexByte l c = -1
     · rw [if_pos e2] at this ⊢; simpa using this
     · rw [if_neg e2] at this ⊢
       rw [if_neg (by omega)]
       have : Go.Lib.indexByte l c + 1 + (i : Int) = Go.Lib.indexByte l c + ((i + 1 : Nat) : Int) := by omega
       rw [this]; assumption
noncomputable def idxOv (args : List AV) (H : FH) (k : AV -> FH -> Bool) : Bool :=
 nthK args 0 (fun a => nthK args 1 (fun b => ifK (Nat.beq (lenN args) 2)
  (a.onStr false fun s => b.onInt false fun kd n => ifK (kindB kd .u8) (natK n.toNat fun c => ifK (Nat.blt c 256) (idxK (fun r => k (.int .i64 r) H) s c 0) false) false) false) false) false
structure IsIdx (P : Program) (f : FuncId) : Prop where
 ex : ∃ fn, P.funcs[f]? = some fn /\ (fn.name == "runtime.NumGoroutine") = false /\ fn.body.isNone = true /\ Extern.findNext fn = none /\ Extern.find fn = some Extern.BytealgIndexByte.indexByte
theorem nthK_inv {α : Type} {l : List α} {n : Nat} {k : α -> Bool} (h : nthK l n k false = true) : ∃ a, l[n]? = some a /\ k a = true := by
 rw [nthK_eq] at h
 split at h
 · rename_i a ha; exact ⟨a, ha, h⟩
 · simp at h
theorem idx_does {P : Program} {G : Nat -> Option AV} {f : FuncId} (hf : IsIdx P f) (s : List UInt8) (c : Int) (H : AHeap) :
  Does P G f [.str s, .int .u8 c] H fun r h => r = .int .i64 (Go.Lib.indexByte s c.toNat.toUInt8) /\ h = H := by
 obtain ⟨fn, h1, h2, h3, h4, h5⟩ := hf.ex
 refine ⟨fun E w vs hR hG hv => ?_⟩
 cases hv with | cons ha hv =>
 cases hv with | cons hb hv =>
 cases hv
 cases ha
 cases hb
 refine .inr ⟨.int .i64 (Go.Lib.indexByte s c.toNat.toUInt8), w, ?_, _, H, E, ⟨rfl, rfl⟩, Ext.refl E, .int _ _, hR⟩
 rw [run_callFunc_extern h1 h2 h3 h4 h5]
 have := Go.Lib.run_indexByteString (P := P) ⟨s.toArray⟩ c w
 simp only at this
 rw [this]
 rfl
theorem idxOv_good {P : Program} {G : Nat -> Option AV} {f : FuncId} (hf : IsIdx P f) (args : List AV) (H : FH) (k : AV -> FH -> Bool) (h : idxOv args H k = true) :
  ∃ v H', Does P G f args H.abs (fun r h => r = v /\ h = FH.abs H') /\ H.next <= H'.next /\ k v H' = true := by
 obtain ⟨a, ha, h⟩ := nthK_inv h
 obtain ⟨b, hb, h⟩ := nthK_inv h
 obtain ⟨hl, h⟩ := zah h
 have hl := Nat.eq_of_beq_eq_true hl
 rw [zaE] at hl
 obtain rfl : args = [a, b] := by
  match args, hl with
  | [x, y], _ => simp at ha hb; subst ha; subst hb; rfl
 rcases AV.onStr_inv h with ⟨s, rfl, h⟩ | ⟨h, _⟩
 case inr => simp at h
 rcases AV.onInt_inv (show AV.onInt false _ b = true from h) with ⟨kd, n, rfl, h⟩ | ⟨h, _⟩
 case inr => simp at h
 have h : ifK (kindB kd .u8) (natK n.toNat fun c => ifK (Nat.blt c 256) (idxK (fun r => k (.int .i64 r) H) s c 0) false) false = true := h
 obtain ⟨hk, hx⟩ := zah h
 rw [za5] at hx
 obtain ⟨hlt, hx⟩ := zah hx
 have hlt : n.toNat < 256 := Nat.le_of_ble_eq_true hlt
 obtain rfl : kd = .u8 := kindB_eq.1 hk
 have e : (n.toNat.toUInt8).toNat = n.toNat := by simp [Nat.toUInt8]; omega
 rw [<- e] at hx
 have := idxK_inv s 0 hx
 refine ⟨_, H, idx_does hf s n H.abs, Nat.le_refl _, ?_⟩
 have hge := Go.Lib.indexByte_ge s n.toNat.toUInt8
 split at this
 · rename_i e; rw [e]; exact this
 · simpa using this
end Go.Abs
namespace Go.Lex
abbrev Bs := List UInt8
def zax (b : UInt8) : Bool := b == 32 || b == 9 || b == 10 || b == 13
def isLetter (b : UInt8) : Bool := decide (97 <= b.toNat) && decide (b.toNat <= 122)
def zau (b : UInt8) : Bool := decide (48 <= b.toNat) && decide (b.toNat <= 57)
def zaV (b : UInt8) : Bool := isLetter b || zau b || b == 95
theorem dropWhile_le {α : Type} (p : α -> Bool) : ∀ l : List α, (l.dropWhile p).length <= l.length
 | [] => Nat.le_refl _
 | a :: l => by
   rw [List.dropWhile_cons]
   split
   · exact Nat.le_succ_of_le (dropWhile_le p l)
   · exact Nat.le_refl _
def betw (s : Bs) : Bs :=
 match h : s.dropWhile zax with
 | 45 :: 45 :: q => betw (q.dropWhile fun b => b != 10)
 | r => r
termination_by s.length
decreasing_by
 have h1 := dropWhile_le zax s
 rw [h] at h1
 have h2 := dropWhile_le (fun b : UInt8 => b != 10) q
 simp only [List.length_cons] at h1
 omega
def keptWords : List Bs := [[110,111,100,101],[114,101,116,117,114,110,115],[118,97,114],[108,101,116],[116,101,108],[98,111,111,108],[105,110,116],[116,114,117,101],[102,97,108,115,101],[110,111,116],[97,110,100],[111,114],[120,111,114],[109,111,100],[105,102],[116,104,101,110],[101,108,115,101],[112,114,101],[102,98,121],[119,104,101,110],[109,101,114,103,101]]
def kept (s : Bs) : Bool := keptWords.contains s
def signs : List Bs := [[60,61],[62,61],[60,62],[45,62],[40],[41],[58],[59],[44],[61],[43],[45],[42],[47],[60],[62]]
def signOf (s : Bs) : Option Bs := signs.find? fun x => x.isPrefixOf s
def za2 (s : Bs) : Nat := s.foldl (fun n b => 10 * n + (b.toNat - 48)) 0
structure Wd where
 kind : Nat
 text : Bs
 n : Nat
 deriving DecidableEq
def wordS (s : Bs) : Option Wd := match s with
 | [] => none
 | b :: _ =>
   if isLetter b then
    (if kept (s.takeWhile zaV) then some ⟨2, s.takeWhile zaV, 0⟩ else if (s.takeWhile zaV).length <= 24 then some ⟨1, s.takeWhile zaV, 0⟩ else none)
   else if zau b then
    (if za2 (s.takeWhile zau) < 9223372036854775808 /\ ((s.takeWhile zau).length = 1 \/ b ≠ 48) then some ⟨3, s.takeWhile zau, za2 (s.takeWhile zau)⟩ else none)
   else match signOf s with
    | some t => some ⟨4, t, 0⟩
    | none => none
def cutS (n : Nat) (s : Bs) : Except Nat (List (Nat × Wd)) :=
 match h : betw s with
 | [] => .ok []
 | b :: r => match wordS (b :: r) with
   | none => .error (n - (r.length + 1))
   | some w => match cutS n (r.drop (w.text.length - 1)) with
     | .ok l => .ok ((n - (r.length + 1), w) :: l)
     | .error e => .error e
termination_by s.length
decreasing_by
 have hb : ∀ s : Bs, (betw s).length <= s.length := by
  intro s
  induction s using betw.induct with
  | case1 s q h ih =>
    rw [betw]
    split
    · rename_i q' h'
      rw [h] at h'
      simp only [List.cons.injEq, true_and] at h'
      subst h'
      have h1 := dropWhile_le zax s
      rw [h] at h1
      have h2 := dropWhile_le (fun b : UInt8 => b != 10) q
      simp only [List.length_cons] at h1
      omega
    · rename_i h'
      exact absurd h (h' q)
  | case2 s h =>
    rw [betw]
    split
    · rename_i q h'
      exact absurd h' (h q)
    · exact dropWhile_le zax s
 have h1 := hb s
 rw [h] at h1
 simp only [List.length_cons, List.length_drop] at h1 ⊢
 omega
end Go.Lex
namespace Go.Abs
open Go Go.RowKit
theorem Rel.below {E : Env} {H : AHeap} {w w' : World} (h : Rel E H w) (b : Below w.heap.size w w') : Rel E H w' := by
 have hb : ∀ (B : Nat) (o : Obj), w.heap[B]? = some o -> w'.heap[B]? = some o := fun B o ho => by
  rw [b.block B (Array.getElem?_eq_some_iff.1 ho).1]; exact ho
 exact ⟨b.os.trans h.os, b.output.trans h.out, fun B o hB => hb _ _ (h.K B o hB), fun B o hB => hb _ _ (h.F B o hB), h.KF, h.dom, fun i x hi => by
  obtain ⟨p, ob, g1, g2, g3, g4, g5⟩ := h.live i x hi
  exact ⟨p, ob, g1, g2, g3, hb _ _ g4, g5⟩, h.inj⟩
structure IsCopy (P : Program) (f : FuncId) : Prop where
 enters : Enters P f
 runs : ∀ (s : ByteArray) (w : World), s.size <= 281474976710656 -> Calls P f #[.string s] w fun e w' => e = .returned (.string s) /\ Below w.heap.size w w'
theorem copy_does {P : Program} {G : Nat -> Option AV} {f : FuncId} (hf : IsCopy P f) (s : List UInt8) (hs : s.length <= 281474976710656) (H : AHeap) : Does P G f [.str s] H fun r h => r = .str s /\ h = H := by
 refine ⟨fun E w vs hR hG hv => ?_⟩
 cases hv with | cons ha hv =>
 cases hv
 cases ha
 refine .inl ⟨hf.enters _ _, (hf.runs ⟨s.toArray⟩ w (by simpa [ByteArray.size] using hs)).mono fun e w' ⟨h1, h2⟩ => ⟨_, h1, .str s, H, E, ⟨rfl, rfl⟩, Ext.refl E, .str s, hR.below h2⟩⟩
noncomputable def copyOv (args : List AV) (H : FH) (k : AV -> FH -> Bool) : Bool :=
 nthK args 0 (fun a => ifK (Nat.beq (lenN args) 1) (a.onStr false fun s => ifK (Nat.ble (lenN s) 281474976710656) (k (.str s) H) false) false) false
theorem copyOv_good {P : Program} {G : Nat -> Option AV} {f : FuncId} (hf : IsCopy P f) (args : List AV) (H : FH) (k : AV -> FH -> Bool) (h : copyOv args H k = true) :
  ∃ v H', Does P G f args H.abs (fun r h => r = v /\ h = FH.abs H') /\ H.next <= H'.next /\ k v H' = true := by
 obtain ⟨a, ha, h⟩ := nthK_inv h
 obtain ⟨hl, h⟩ := zah h
 have hl := Nat.eq_of_beq_eq_true hl
 rw [zaE] at hl
 obtain rfl : args = [a] := by
  match args, hl with
  | [x], _ => simp at ha; subst ha; rfl
 rcases AV.onStr_inv h with ⟨s, rfl, h⟩ | ⟨h, _⟩
 case inr => simp at h
 have h : ifK (Nat.ble (lenN s) 281474976710656) (k (.str s) H) false = true := h
 obtain ⟨h1, h2⟩ := zah h
 have h1 : lenN s <= 281474976710656 := Nat.le_of_ble_eq_true h1
 rw [zaE] at h1
 exact ⟨_, H, copy_does hf s h1 H.abs, Nat.le_refl _, h2⟩
noncomputable def ovAdd (a : FuncId) (g : List AV -> FH -> (AV -> FH -> Bool) -> Bool) (o : Ov) : Ov := fun f => ifK (Nat.beq f a) (some g) (o f)
theorem ovAdd_good {P : Program} {G : Nat -> Option AV} {a : FuncId} {g : List AV -> FH -> (AV -> FH -> Bool) -> Bool} {o : Ov}
  (hg : ∀ args H k, g args H k = true -> ∃ v H', Does P G a args H.abs (fun r h => r = v /\ h = FH.abs H') /\ H.next <= H'.next /\ k v H' = true) (ho : zaW P G o) : zaW P G (ovAdd a g o) := by
 intro f g' h args H k hk
 unfold ovAdd at h
 cases e : Nat.beq f a with
 | true =>
   obtain rfl := Nat.eq_of_beq_eq_true e
   rw [e, ifK_true] at h
   simp only [Option.some.injEq] at h; subst h
   exact hg args H k hk
 | false => rw [e, zaI] at h; exact ho f g' h args H k hk
end Go.Abs
namespace Go.Abs
open Go
section
variable {P : Program} {E : Env} {w : World} {t u e ty : TypeId} {info : TypeInfo} {s : List UInt8} {us ux : Value}
end
section
variable {P : Program} (w : World)
end
end Go.Abs
namespace Go.Abs
open Go Go.RowKit
structure IsCheck (P : Program) (f : FuncId) (T u : TypeId) : Prop where
 enters : Enters P f
 lies : liesAt P P.depth T 1 0 u 1 = true
 cells : P.cellsOf T = 2
 fresh : ∀ (b n : Nat) (w : World), w.cell? ⟨b, 0, none⟩ = some (.pointer none) -> w.shape? b = some (T, n) -> 0 < n -> liesAt P P.depth T (n / P.cellsOf T) 0 u 1 = true -> w.frozen? ⟨b, 0, none⟩ = false ->
  Calls P f #[.pointer (some ⟨b, 0, none⟩)] w fun e w' => e = .returned (.tuple #[]) /\ w' = w.setCell ⟨b, 0, none⟩ (.pointer (some ⟨b, 0, none⟩))
 used : ∀ (b : Nat) (w : World), w.cell? ⟨b, 0, none⟩ = some (.pointer (some ⟨b, 0, none⟩)) -> Calls P f #[.pointer (some ⟨b, 0, none⟩)] w fun e w' => e = .returned (.tuple #[]) /\ w' = w
structure IsWrite (P : Program) (f ck : FuncId) (T e t u : TypeId) : Prop where
 enters : Enters P f
 slice : P.underlying t = some (.slice e)
 string : P.underlying u = some .string
 info : ∃ info z, P.info? e = some info /\ azero P e = some z /\ z.cells.length = 1 /\ info.size = 1 /\ info.bytes = 1
 runs : ∀ (b : Nat) (s : ByteArray) (x x' y : Value) (w w1 w2 : World), (Calls P ck #[.pointer (some ⟨b, 0, none⟩)] w fun e w' => e = .returned (.tuple #[]) /\ w' = w1) ->
  w1.cell? ⟨b, 1, none⟩ = some x -> (Builtin.append_ #[t, u] t #[x, .string s]).run P w1 = .ok x' w2 -> ∀ (ao : Option Addr) (n c : Nat), x' = .slice ao n c -> w2.cell? ⟨b, 1, none⟩ = some y -> w2.frozen? ⟨b, 1, none⟩ = false ->
  Calls P f #[.pointer (some ⟨b, 0, none⟩), .string s] w fun e w' => e = .returned (.tuple #[.int .i64 s.size, .nilIface]) /\ w' = w2.setCell ⟨b, 1, none⟩ x'
structure IsString (P : Program) (f : FuncId) (e : TypeId) : Prop where
 enters : Enters P f
 empty : ∀ (b : Nat) (w : World), w.cell? ⟨b, 1, none⟩ = some (.slice none 0 0) -> Calls P f #[.pointer (some ⟨b, 0, none⟩)] w fun e w' => e = .returned (.string ⟨#[]⟩) /\ Below w.heap.size w w'
 full : ∀ (b g cap : Nat) (l : List UInt8) (c : Array Value) (fz : Nat × Nat) (w : World), w.cell? ⟨b, 1, none⟩ = some (.slice (some ⟨g, 0, none⟩) l.length cap) -> w.heap[g]? = some (.cells c e fz) -> (∀ (j : Nat) (x : UInt8), l[j]? = some x -> w.cell? ⟨g, j, none⟩ = some (.int .u8 x.toNat)) ->
  l ≠ [] -> l.length <= cap -> cap <= c.size -> l.length <= 140737488355328 -> Calls P f #[.pointer (some ⟨b, 0, none⟩)] w fun e w' => e = .returned (.string ⟨l.toArray⟩) /\ (∀ C, C ≠ g -> w'.heap[C]? = w.heap[C]?) /\ w'.os = w.os /\ w'.output = w.output
structure IsGrow (P : Program) (f ck : FuncId) (e : TypeId) : Prop where
 enters : Enters P f
 runs : ∀ (b n : Nat) (w w1 : World), (Calls P ck #[.pointer (some ⟨b, 0, none⟩)] w fun e w' => e = .returned (.tuple #[]) /\ w' = w1) ->
  w1.cell? ⟨b, 1, none⟩ = some (.slice none 0 0) -> w1.frozen? ⟨b, 1, none⟩ = false -> b < w1.heap.size -> 0 < n -> n <= 140737488355328 ->
  Calls P f #[.pointer (some ⟨b, 0, none⟩), .int .i64 n] w fun x w' => x = .returned (.tuple #[]) /\ ∃ c : Array Value, w'.heap = ((w1.alloc (.cells c e)).setCell ⟨b, 1, none⟩ (.slice (some ⟨w1.heap.size, 0, none⟩) 0 c.size)).heap /\ w'.os = w1.os /\ w'.output = w1.output
 runs0 : ∀ (b : Nat) (w w1 : World), (Calls P ck #[.pointer (some ⟨b, 0, none⟩)] w fun e w' => e = .returned (.tuple #[]) /\ w' = w1) ->
  w1.cell? ⟨b, 1, none⟩ = some (.slice none 0 0) -> Calls P f #[.pointer (some ⟨b, 0, none⟩), .int .i64 0] w fun x w' => x = .returned (.tuple #[]) /\ w'.heap = w1.heap /\ w'.os = w1.os /\ w'.output = w1.output
section
variable {R : Type}
end
noncomputable def nilB {α : Type} (l : List α) : Bool := List.rec (motive := fun _ => Bool) true (fun _ _ _ => false) l
theorem nilB_eq {α : Type} (l : List α) : nilB l = true ↔ l = [] := by cases l <;> simp [nilB]
noncomputable def oneKK {R : Type} (cs : List AV) (f : AV -> R) (z : R) : R := List.rec (motive := fun _ => R) z (fun a r _ => List.rec (motive := fun _ => R) (f a) (fun _ _ _ => z) r) cs
theorem oneKK_inv {cs : List AV} {f : AV -> Bool} (h : oneKK cs f false = true) : ∃ a, cs = [a] /\ f a = true := by
 match cs, h with
 | [a], h => exact ⟨a, rfl, h⟩
 | [], h => simp [oneKK] at h
 | _ :: _ :: _, h => simp [oneKK] at h
end Go.Abs
namespace Go.Proofs.YtekbjlihciedjaaGreatDoor
open Go Go.Abs Go.RowKit
/- internal/stringslite.Clone: the same bytes; of what was there nothing has turned. -/
theorem clone_runs (s : ByteArray) (w : World) (hlim : s.size <= 281474976710656) : Calls Tryz.prog 378 #[.string s] w fun e w' => e = .returned (.string s) /\ Below w.heap.size w w' := by
 by_cases h0 : s.size = 0
 · obtain rfl : s = ⟨#[]⟩ := ByteArray.ext (Array.eq_empty_of_size_eq_zero h0)
   go_enter Tryz.func378, Tryz.ntmps378
   go_wp2
   go_ret
   exact ⟨rfl, Below.refl _ _⟩
 · have hi : Tryz.prog.info? 5 = some Tryz.t5 := by kernel_rfl
   have hz0 : Tryz.t5.zero = some (.int .u8 0) := by kernel_rfl
   have hz1 : Tryz.t5.size = 1 := by kernel_rfl
   have hz2 : Tryz.t5.bytes = 1 := by kernel_rfl
   have hinfo : (Tryz.prog.info? 5).map (·.size) = some 1 := by kernel_rfl
   have hco : Tryz.prog.cellsOf 5 = 1 := by kernel_rfl
   have u29 : Tryz.prog.underlying 22 = some (.slice 5) := Tryz.underlying22
   have u94 : Tryz.prog.underlying 499 = some (.pointer 5) := Tryz.underlying499
   have z5 : ∀ w, (Go.sizeOf 5).run Tryz.prog w = .ok 1 w := fun w => by kernel_rfl
   obtain ⟨M, hM⟩ : ∃ M, M = madeCells (Value.int .u8 0).cells (((s.size : Nat) : Int).toNat * Tryz.t5.size) := ⟨_, rfl⟩
   have hMs : M.size = s.size := by rw [hM, size_madeCells, hz1]; simp
   have hmk : ∀ W : World, (Instr.makeSlice 22 (.int .i64 (s.size : Int)) (.int .i64 (s.size : Int))).run Tryz.prog W = .ok (.slice (some ⟨W.heap.size, 0, none⟩) s.size s.size) (W.alloc (.cells M 5)) := fun W => by
    have h := run_make (P := Tryz.prog) W 22 5 Tryz.t5 (.int .u8 0) u29 hi hz0 .i64 .i64 (s.size : Int) (s.size : Int) (by omega) (by omega) (by rw [hz2]; omega) (by omega)
    rw [<- hM] at h
    simpa using h
   clear hM
   have hcp := Lib.run_copy_row_string (P := Tryz.prog) (w.alloc (.cells M 5)) 22 9 3 5 w.heap.size 0 s.size s.size s M 5 u29 hinfo (heap_alloc_new w _) (Nat.le_refl _) (by omega)
   obtain ⟨Y, hY⟩ : ∃ Y, Y = (M.toList.take 0 ++ Lib.byteCells s.data.toList ++ M.toList.drop (0 + s.size)).toArray := ⟨_, rfl⟩
   rw [<- hY] at hcp
   have hYl : Y.toList = Lib.byteCells s.data.toList := by
    rw [hY, List.toList_toArray, List.take_zero, List.nil_append, List.drop_of_length_le (by rw [Array.length_toList]; omega), List.append_nil]
   have hYs : Y.size = s.size := by rw [<- Array.length_toList, hYl, Lib.byteCells_length, <- Lib.size_eq]
   have hgY : ((w.alloc (.cells M 5)).setRow w.heap.size Y).heap[w.heap.size]? = some (.cells Y 5 (0, 0)) := setRow_heap _ _ M _ 5 (0, 0) (heap_alloc_new w _)
   have hne : s.data.toList ≠ [] := fun e => h0 (by rw [Lib.size_eq, e]; rfl)
   have hUS := Lib.run_unsafeString_row (P := Tryz.prog) ((w.alloc (.cells M 5)).setRow w.heap.size Y) 499 3 9 5 u94 hco w.heap.size Y.size (by unfold World.shape?; rw [hgY]) s.data.toList hne (by rw [<- Lib.size_eq]; omega) (by rw [<- Lib.size_eq]; omega)
    (fun j x hx => Lib.cells_of_row hgY Y.size j _ (by rw [List.take_of_length_le (by rw [Array.length_toList]; exact Nat.le_refl _), hYl]; simp [Lib.byteCells, hx]))
   rw [<- Lib.size_eq] at hUS
   clear hY
   go_enter Tryz.func378, Tryz.ntmps378
   go_wp2
   go_ret
   have hb1 : Below w.heap.size w (w.alloc (.cells M 5)) := (Below.refl _ w).alloc (Nat.le_refl _) _
   have hb2 : Below w.heap.size (w.alloc (.cells M 5)) ((w.alloc (.cells M 5)).setRow w.heap.size Y) := ⟨rfl, rfl, rfl, by simp, fun k hk => setRow_other _ _ _ _ (by omega)⟩
   exact ⟨rfl, Lib.below_freeze (hb1.trans hb2) (p := ⟨w.heap.size, 0, none⟩) (Nat.le_refl _) _⟩
theorem isCopy : IsCopy Tryz.prog 378 := ⟨Tryz.call378, clone_runs⟩
end Go.Proofs.YtekbjlihciedjaaGreatDoor
namespace Go.Lex
theorem betw_line' (s q : Bs) (h : s.dropWhile zax = 45 :: 45 :: q) : betw s = betw (q.dropWhile fun b => b != 10) := by
 rw [betw]
 split
 · rename_i q' h'
   rw [h] at h'
   simp only [List.cons.injEq, true_and] at h'
   rw [h']
 · rename_i h'
   exact absurd h (h' q)
theorem betw_word' (s : Bs) (h : ∀ q, s.dropWhile zax ≠ 45 :: 45 :: q) : betw s = s.dropWhile zax := by
 rw [betw]
 split
 · rename_i q hq
   exact absurd hq (h q)
 · rfl
theorem betw_blank {b : UInt8} {s : Bs} (h : zax b = true) : betw (b :: s) = betw s := by
 have e : (b :: s).dropWhile zax = s.dropWhile zax := by rw [List.dropWhile_cons, if_pos h]
 by_cases hq : ∃ q, s.dropWhile zax = 45 :: 45 :: q
 · obtain ⟨q, hq⟩ := hq
   rw [betw_line' _ q (e.trans hq), betw_line' _ q hq]
 · have hn : ∀ q, s.dropWhile zax ≠ 45 :: 45 :: q := fun q h => hq ⟨q, h⟩
   rw [betw_word' s hn, betw_word' _ (by rw [e]; exact hn), e]
theorem betw_rem (q : Bs) : betw (45 :: 45 :: q) = betw (q.dropWhile fun b => b != 10) := betw_line' _ q rfl
theorem betw_here {b : UInt8} {s : Bs} (h : zax b = false) (h2 : ∀ q, b :: s ≠ 45 :: 45 :: q) : betw (b :: s) = b :: s := by
 have e : (b :: s).dropWhile zax = b :: s := by rw [List.dropWhile_cons, h]; rfl
 rw [betw_word' _ (by rw [e]; exact h2), e]
theorem betw_nil' : betw [] = [] := betw_word' [] (fun q h => by simp at h)
theorem wordS_text {s : Bs} {w : Wd} (h : wordS s = some w) : w.text <+: s /\ w.text ≠ [] := by
 cases s with
 | nil => simp [wordS] at h
 | cons c q =>
   simp only [wordS] at h
   split at h
   · rename_i hL
     have hne : (c :: q).takeWhile zaV ≠ [] := by
      rw [List.takeWhile_cons, if_pos (by simp [zaV, hL])]; simp
     split at h
     · simp only [Option.some.injEq] at h; subst h; exact ⟨List.takeWhile_prefix _, hne⟩
     · split at h
       · simp only [Option.some.injEq] at h; subst h; exact ⟨List.takeWhile_prefix _, hne⟩
       · simp at h
   · split at h
     · rename_i hD
       have hne : (c :: q).takeWhile zau ≠ [] := by
        rw [List.takeWhile_cons, if_pos hD]; simp
       split at h
       · simp only [Option.some.injEq] at h; subst h; exact ⟨List.takeWhile_prefix _, hne⟩
       · simp at h
     · split at h
       · rename_i t ht
         simp only [Option.some.injEq] at h; subst h
         have h1 := List.find?_some ht
         have h2 := List.mem_of_find?_eq_some ht
         refine ⟨List.isPrefixOf_iff_prefix.1 h1, ?_⟩
         rintro rfl
         exact absurd h2 (by decide)
       · simp at h
theorem cutS_end {n : Nat} {s : Bs} (h : betw s = []) : cutS n s = .ok [] := by
 rw [cutS]; split
 · rfl
 · rename_i h'; rw [h] at h'; simp at h'
theorem cutS_bad {n : Nat} {s q : Bs} {c : UInt8} (h : betw s = c :: q) (hw : wordS (c :: q) = none) : cutS n s = .error (n - (c :: q).length) := by
 rw [cutS]; split
 · rename_i h'; rw [h] at h'; simp at h'
 · rename_i b r h'
   rw [h] at h'
   simp only [List.cons.injEq] at h'
   obtain ⟨rfl, rfl⟩ := h'
   rw [hw]; rfl
theorem cutS_word {n : Nat} {s q : Bs} {c : UInt8} {w : Wd} (h : betw s = c :: q) (hw : wordS (c :: q) = some w) :
  cutS n s = match cutS n ((c :: q).drop w.text.length) with
   | .ok l => .ok ((n - (c :: q).length, w) :: l)
   | .error e => .error e := by
 rw [cutS]; split
 · rename_i h'; rw [h] at h'; simp at h'
 · rename_i b r h'
   rw [h] at h'
   simp only [List.cons.injEq] at h'
   obtain ⟨rfl, rfl⟩ := h'
   rw [hw]
   obtain ⟨_, hne⟩ := wordS_text hw
   have h1 : (c :: q).drop w.text.length = q.drop (w.text.length - 1) := by
    have h0 : w.text.length ≠ 0 := by simpa using hne
    obtain ⟨k, hk⟩ : ∃ k, w.text.length = k + 1 := ⟨w.text.length - 1, by omega⟩
    rw [hk]; rfl
   rw [h1]; rfl
def aheadW (ws : List (Nat × Wd)) : Except Nat (List (Nat × Wd)) -> Except Nat (List (Nat × Wd))
 | .ok l => .ok (ws ++ l)
 | .error e => .error e
end Go.Lex
namespace Go.Proofs.YtekbjlihciedjaaGreatDoor
open Go Go.Abs Go.RowKit
noncomputable def named : String -> Option TypeId := fun s => if s = "*errors.errorString" then some 500 else none
theorem named_one (name : String) (u u' : TypeId) (h : named name = some u) (h' : Tryz.prog.typeName? 3 u' = some name) : u' = u := by
 unfold named at h
 split at h <;> try (simp at h; done)
 rename_i e; subst e
 simp only [Option.some.injEq] at h; subst h
 exact typeName_ptr_named (nm := "errors.errorString") (by kernel_rfl) (by kernel_rfl) (by decide) u' h'
def seatLaid : List (String × DataW Unit) := [("math/bits.deBruijn32tab", Rows.laid_math_bits_deBruijn32tab), ("math/bits.deBruijn64tab", Rows.laid_math_bits_deBruijn64tab), ("internal/strconv.uint64pow10", Rows.laid_internal_strconv_uint64pow10), ("unicode/utf8.acceptRanges", Rows.laid_unicode_utf8_acceptRanges), ("strconv.ErrRange", Rows.laid_strconv_ErrRange), ("strconv.ErrSyntax", Rows.laid_strconv_ErrSyntax), ("unicode/utf8.first", Rows.laid_unicode_utf8_first)]
noncomputable def tab : List (Nat × List AV) := (laidTab Tryz.prog named 8 seatLaid).getD []
theorem tab_ok : (laidTab Tryz.prog named 8 seatLaid).isSome = true := by kernel_rfl
theorem laid_start {w : World} (h : laidMet Tryz.prog seatLaid w) : GRel (Env.start w) (Gof tab) := laid_met named_one tab_ok h
theorem idx343 : IsIdx Tryz.prog 343 := ⟨⟨Tryz.f343, Tryz.func343, by kernel_rfl, by kernel_rfl, by kernel_rfl, by kernel_rfl⟩⟩
noncomputable def known : Ov := ovAdd 378 copyOv (ovAdd 343 idxOv (noOv))
theorem known_good (G : Nat -> Option AV) : zaW Tryz.prog G known := (ovAdd_good (copyOv_good isCopy) (ovAdd_good (idxOv_good idx343) (noOv_good _ _)))
end Go.Proofs.YtekbjlihciedjaaGreatDoor
namespace Go.Abs
open Go Go.RowKit Go.WideShapes Go.ChangeShapes
section
variable {H : Type} {enc : TypeId × Value -> H} {P : Program}
theorem Olds.stays (hl : laidOutB P = true) {W W' : World} (hb : Olds W W') (sp : Nat -> Bool) : ∀ {ts : List TypeId} {vs : List Value} {ds : List (DataW H)} {ps : List MemPlace}, (∀ t ∈ ts, P.readableRec t = true /\ t < P.types.size) ->
  DataW.TrodAll enc P W 0 (fun _ => true) true ts vs ds ps -> (∀ x ∈ ps, x.block < W.heap.size /\ sp x.block = true) -> DataW.TrodAll enc P W' 0 sp true ts vs ds ps
 | [], [], [], ps, _, h, _ => h
 | t :: ts, v :: vs, d :: ds, ps, ht, h, hp => by
   obtain ⟨p, q, h1, h2, rfl⟩ := h
   obtain ⟨hr, hrow⟩ := ht t (by simp)
   refine ⟨p, q, ?_, Olds.stays hl hb sp (fun t ht' => ht t (by simp [ht'])) h2 (fun x hx => hp x (by simp [hx])), rfl⟩
   exact WideElems.Trod_stays hl hr hrow h1 (fun x hx => hb.same (hp x (by simp [hx])).1) (fun x hx => (hp x (by simp [hx])).2)
 | [], [], _ :: _, _, _, h, _ => h.elim
 | [], _ :: _, _, _, _, h, _ => by cases h
 | _ :: _, [], _, _, _, h, _ => by cases h
 | _ :: _, _ :: _, [], _, _, h, _ => by cases h
theorem open_arg {n : Nat} {t : TypeId} {v : Value} {d : DataW H} {ps : List MemPlace} {W : World} {base : Nat} (ht : plainTy P n t = true) (hs : (match P.underlying t with | some (.struct _) => false | _ => true) = true)
  (hv : Value.okWide P W .any base t v) (h : DataW.Trod enc P W 0 (fun _ => true) true t v d ps) : ∃ a, VRel (Env.start W) a v /\ Shp P n t [a] := by
 obtain ⟨fuel, h⟩ := h
 obtain ⟨as_, h1, h2⟩ := open_plain ht h
 have hc : v.cells = #[v] := by
  unfold Value.okWide at hv
  have h0 := ht
  cases n with
  | zero => simp [plainTy] at ht
  | succ n =>
    unfold plainTy at ht
    split at ht <;> rename_i hu <;> first
     | (rw [hu] at hs; simp at hs; done)
     | (simp at ht; done)
     | (rw [hu] at hv
        simp only [Cell.okWide, hu] at hv
        cases v <;> first | rfl | (simp [Cell.ok, hu] at hv; done))
 rw [hc] at h1
 cases h1 with | cons h t => cases t; exact ⟨_, h, h2⟩
end
end Go.Abs
namespace Go.Lex
open Go.Abs
noncomputable def blankN (n : Nat) : Bool := ifK (Nat.beq n 32) true (ifK (Nat.beq n 9) true (ifK (Nat.beq n 10) true (Nat.beq n 13)))
noncomputable def letterN (n : Nat) : Bool := ifK (Nat.ble 97 n) (Nat.ble n 122) false
noncomputable def digitN (n : Nat) : Bool := ifK (Nat.ble 48 n) (Nat.ble n 57) false
noncomputable def namecN (n : Nat) : Bool := ifK (letterN n) true (ifK (digitN n) true (Nat.beq n 95))
theorem ifK_if {R : Type} (b : Bool) (x y : R) : ifK b x y = if b = true then x else y := by cases b <;> rfl
theorem zaL (b : UInt8) (n : UInt8) : Nat.beq b.toNat n.toNat = (b == n) := by
 rw [Bool.eq_iff_iff, Nat.beq_eq, beq_iff_eq, UInt8.toNat_inj]
theorem blankN_eq (b : UInt8) : blankN b.toNat = zax b := by
 have h1 := zaL b 32
 have h2 := zaL b 9
 have h3 := zaL b 10
 have h4 := zaL b 13
 have e1 : (32 : UInt8).toNat = 32 := rfl
 have e2 : (9 : UInt8).toNat = 9 := rfl
 have e3 : (10 : UInt8).toNat = 10 := rfl
 have e4 : (13 : UInt8).toNat = 13 := rfl
 rw [e1] at h1; rw [e2] at h2; rw [e3] at h3; rw [e4] at h4
 simp only [blankN, ifK_if, h1, h2, h3, h4, zax]
 cases b == 32 <;> cases b == 9 <;> cases b == 10 <;> cases b == 13 <;> rfl
theorem letterN_eq (b : UInt8) : letterN b.toNat = isLetter b := by
 simp only [letterN, ifK_if, isLetter, Nat.ble_eq]
 by_cases h : 97 <= b.toNat
 · rw [if_pos h, decide_eq_true h, Bool.true_and, Bool.eq_iff_iff, Nat.ble_eq, decide_eq_true_eq]
 · rw [if_neg h, decide_eq_false h, Bool.false_and]
theorem digitN_eq (b : UInt8) : digitN b.toNat = zau b := by
 simp only [digitN, ifK_if, zau, Nat.ble_eq]
 by_cases h : 48 <= b.toNat
 · rw [if_pos h, decide_eq_true h, Bool.true_and, Bool.eq_iff_iff, Nat.ble_eq, decide_eq_true_eq]
 · rw [if_neg h, decide_eq_false h, Bool.false_and]
theorem namecN_eq (b : UInt8) : namecN b.toNat = zaV b := by
 have h1 := zaL b 95
 have e1 : (95 : UInt8).toNat = 95 := rfl
 rw [e1] at h1
 simp only [namecN, ifK_if, letterN_eq, digitN_eq, zaV, h1]
 cases isLetter b <;> cases zau b <;> rfl
noncomputable def frcA (l : Bs) : Bs -> (Bs -> Bool) -> Bool := List.rec (motive := fun _ => Bs -> (Bs -> Bool) -> Bool) (fun m k => revK m [] k) (fun b _ ih m k => natK b.toNat fun n => stepK (ih (UInt8.ofNat n :: m) k)) l
theorem frcA_eq : ∀ (l m : Bs) (k : Bs -> Bool), frcA l m k = k (m.reverse ++ l)
 | [], m, k => by
   have e : frcA [] m k = revK m [] k := rfl
   rw [e, revK_eq]
 | b :: l, m, k => by
   have e : frcA (b :: l) m k = natK b.toNat fun n => frcA l (UInt8.ofNat n :: m) k := rfl
   rw [e, za5, frcA_eq l]; simp
noncomputable def is45 (l : Bs) : Bool := List.rec (motive := fun _ => Bool) false (fun b _ _ => Nat.beq b.toNat 45) l
noncomputable def skK (l : Bs) : Bool -> (Bs -> Bool) -> Bool := List.rec (motive := fun _ => Bool -> (Bs -> Bool) -> Bool) (fun _ k => k [])
 (fun b l ih m k => natK b.toNat fun n => ifK m (ifK (Nat.beq n 10) (stepK (ih false k)) (stepK (ih true k)))
   (ifK (blankN n) (stepK (ih false k)) (ifK (Nat.beq n 45) (ifK (is45 l) (stepK (ih true k)) (k (b :: l))) (k (b :: l))))) l
theorem skK_eq : ∀ (l : Bs) (m : Bool) (k : Bs -> Bool), skK l m k = k (betw (if m then l.dropWhile (fun b => b != 10) else l))
 | [], m, k => by
   have e : skK [] m k = k [] := rfl
   rw [e]; cases m <;> simp [betw_nil']
 | b :: l, m, k => by
   have e : skK (b :: l) m k = natK b.toNat fun n => ifK m (ifK (Nat.beq n 10) (skK l false k) (skK l true k))
    (ifK (blankN n) (skK l false k) (ifK (Nat.beq n 45) (ifK (is45 l) (skK l true k) (k (b :: l))) (k (b :: l)))) := rfl
   have h10 := zaL b 10
   have h45 := zaL b 45
   have e1 : (10 : UInt8).toNat = 10 := rfl
   have e2 : (45 : UInt8).toNat = 45 := rfl
   rw [e1] at h10; rw [e2] at h45
   rw [e, za5, h10, blankN_eq, h45, skK_eq l, skK_eq l]
   cases m with
   | true =>
     simp only [ifK_if, if_true]
     by_cases hb : b = 10
     · subst hb
       simp only [beq_self_eq_true, if_true, Bool.false_eq_true, if_false]
       rw [List.dropWhile_cons]
       simp only [bne_self_eq_false, Bool.false_eq_true, if_false]
       rw [betw_blank (by decide)]
     · have h1 : (b == 10) = false := by simpa using hb
       have h2 : (b != 10) = true := by simpa using hb
       simp only [h1, Bool.false_eq_true, if_false, if_true]
       rw [List.dropWhile_cons, h2, if_pos rfl]
   | false =>
     simp only [ifK_if, Bool.false_eq_true, if_false, if_true]
     cases hb : zax b with
     | true => simp only [if_true]; rw [betw_blank hb]
     | false =>
       simp only [Bool.false_eq_true, if_false]
       by_cases h4 : b = 45
       · subst h4
         simp only [beq_self_eq_true, if_true]
         cases l with
         | nil =>
           have : is45 [] = false := rfl
           rw [this]
           simp only [Bool.false_eq_true, if_false]
           rw [betw_here hb (by simp)]
         | cons c q =>
           have hc : is45 (c :: q) = (c == 45) := by
            have := zaL c 45
            rw [e2] at this
            exact this
           rw [hc]
           by_cases hc4 : c = 45
           · subst hc4
             simp only [beq_self_eq_true, if_true]
             rw [betw_rem, List.dropWhile_cons]
             simp
           · have : (c == 45) = false := by simpa using hc4
             rw [this]
             simp only [Bool.false_eq_true, if_false]
             rw [betw_here hb (by intro q h; simp at h; exact hc4 h.1)]
       · have : (b == 45) = false := by simpa using h4
         rw [this]
         simp only [Bool.false_eq_true, if_false]
         rw [betw_here hb (by intro q h; simp at h; exact h4 h.1)]
noncomputable def spK (p : Nat -> Bool) (l : Bs) : Bs -> (Bs -> Bs -> Bool) -> Bool := List.rec (motive := fun _ => Bs -> (Bs -> Bs -> Bool) -> Bool) (fun m k => revK m [] fun t => k t [])
 (fun b l ih m k => natK b.toNat fun n => ifK (p n) (stepK (ih (b :: m) k)) (revK m [] fun t => k t (b :: l))) l
theorem spK_eq {p : Nat -> Bool} {q : UInt8 -> Bool} (h : ∀ b, p b.toNat = q b) : ∀ (l m : Bs) (k : Bs -> Bs -> Bool), spK p l m k = k (m.reverse ++ l.takeWhile q) (l.drop (l.takeWhile q).length)
 | [], m, k => by
   have e : spK p [] m k = revK m [] fun t => k t [] := rfl
   rw [e, revK_eq]; simp
 | b :: l, m, k => by
   have e : spK p (b :: l) m k = natK b.toNat fun n => ifK (p n) (spK p l (b :: m) k) (revK m [] fun t => k t (b :: l)) := rfl
   rw [e, za5, h, spK_eq h l, revK_eq, List.takeWhile_cons]
   cases q b <;> simp
noncomputable def eqN (w : List Nat) : Bs -> Bool := List.rec (motive := fun _ => Bs -> Bool) (fun s => nilB s) (fun x _ ih s => List.rec (motive := fun _ => Bool) false (fun b r _ => ifK (Nat.beq b.toNat x) (ih r) false) s) w
theorem eqN_eq : ∀ (w : List Nat) (s : Bs), eqN w s = true ↔ s.map (·.toNat) = w
 | [], s => by
   have e : eqN [] s = nilB s := rfl
   rw [e, nilB_eq]; cases s <;> simp
 | x :: w, [] => by
   have e : eqN (x :: w) [] = false := rfl
   rw [e]; simp
 | x :: w, b :: s => by
   have e : eqN (x :: w) (b :: s) = ifK (Nat.beq b.toNat x) (eqN w s) false := rfl
   rw [e, ifK_if]
   by_cases h : b.toNat = x
   · have : Nat.beq b.toNat x = true := by rw [Nat.beq_eq]; exact h
     rw [if_pos this, eqN_eq w s]; simp [h]
   · have : ¬ Nat.beq b.toNat x = true := by rw [Nat.beq_eq]; exact h
     rw [if_neg this]; simp [h]
noncomputable def anyN (ws : List (List Nat)) (s : Bs) : Bool := List.rec (motive := fun _ => Bool) false (fun w _ ih => ifK (eqN w s) true ih) ws
theorem anyN_eq (s : Bs) : ∀ ws : List (List Nat), anyN ws s = true ↔ s.map (·.toNat) ∈ ws
 | [] => by simp [anyN]
 | w :: ws => by
   have e : anyN (w :: ws) s = ifK (eqN w s) true (anyN ws s) := rfl
   rw [e, ifK_if]
   by_cases h : eqN w s = true
   · rw [if_pos h]; simp [(eqN_eq w s).1 h]
   · rw [if_neg h, anyN_eq s ws]
     have : ¬ s.map (·.toNat) = w := fun e => h ((eqN_eq w s).2 e)
     simp [this]
def keptN : List (List Nat) := [[110,111,100,101],[114,101,116,117,114,110,115],[118,97,114],[108,101,116],[116,101,108],[98,111,111,108],[105,110,116],[116,114,117,101],[102,97,108,115,101],[110,111,116],[97,110,100],[111,114],[120,111,114],[109,111,100],[105,102],[116,104,101,110],[101,108,115,101],[112,114,101],[102,98,121],[119,104,101,110],[109,101,114,103,101]]
theorem toNat_map_inj : ∀ {a b : Bs}, a.map (·.toNat) = b.map (·.toNat) -> a = b
 | [], [], _ => rfl
 | [], _ :: _, h => by simp at h
 | _ :: _, [], h => by simp at h
 | x :: a, y :: b, h => by
   simp only [List.map_cons, List.cons.injEq] at h
   rw [UInt8.toNat_inj.1 h.1, toNat_map_inj h.2]
theorem keptN_eq (s : Bs) : anyN keptN s = kept s := by
 rw [Bool.eq_iff_iff, anyN_eq]
 have hk : keptN = keptWords.map (fun w => w.map (·.toNat)) := rfl
 unfold kept
 rw [hk, List.mem_map, List.contains_iff_mem]
 constructor
 · rintro ⟨w, hw, e⟩; rw [<- toNat_map_inj e]; exact hw
 · intro h; exact ⟨s, h, rfl⟩
noncomputable def prN (w : List Nat) : Bs -> (Bs -> Bool) -> Bool -> Bool := List.rec (motive := fun _ => Bs -> (Bs -> Bool) -> Bool -> Bool) (fun s k _ => k s)
 (fun x _ ih s k z => List.rec (motive := fun _ => Bool) z (fun b r _ => ifK (Nat.beq b.toNat x) (ih r k z) z) s) w
theorem prN_eq : ∀ (w s : Bs) (k : Bs -> Bool) (z : Bool), prN (w.map (·.toNat)) s k z = if w.isPrefixOf s then k (s.drop w.length) else z
 | [], s, k, z => by
   have e : prN (([] : Bs).map (·.toNat)) s k z = k s := rfl
   rw [e]; simp
 | x :: w, [], k, z => by
   have e : prN ((x :: w).map (·.toNat)) [] k z = z := rfl
   rw [e]; simp
 | x :: w, b :: s, k, z => by
   have e : prN ((x :: w).map (·.toNat)) (b :: s) k z = ifK (Nat.beq b.toNat x.toNat) (prN (w.map (·.toNat)) s k z) z := rfl
   rw [e, zaL, prN_eq w s, ifK_if]
   by_cases h : b = x
   · subst h; simp
   · have h1 : (b == x) = false := by simpa using h
     have h2 : (x == b) = false := by simpa using fun e => h e.symm
     rw [h1]; simp [List.isPrefixOf, h2]
noncomputable def sgK (ws : List Bs) (s : Bs) (k : Bs -> Bs -> Bool) (z : Bool) : Bool := List.rec (motive := fun _ => Bool) z (fun w _ ih => prN (w.map (·.toNat)) s (fun r => k w r) ih) ws
theorem sgK_eq (s : Bs) (k : Bs -> Bs -> Bool) (z : Bool) : ∀ ws : List Bs, sgK ws s k z = match ws.find? fun x => x.isPrefixOf s with | some t => k t (s.drop t.length) | none => z
 | [] => rfl
 | w :: ws => by
   have e : sgK (w :: ws) s k z = prN (w.map (·.toNat)) s (fun r => k w r) (sgK ws s k z) := rfl
   rw [e, prN_eq, sgK_eq s k z ws, List.find?_cons]
   cases w.isPrefixOf s <;> rfl
noncomputable def numN (l : Bs) : Nat -> Nat := List.rec (motive := fun _ => Nat -> Nat) (fun n => n) (fun b _ ih n => natK (Nat.add (Nat.mul 10 n) (Nat.sub b.toNat 48)) fun n => ih n) l
theorem numN_eq : ∀ (l : Bs) (n : Nat), numN l n = l.foldl (fun n b => 10 * n + (b.toNat - 48)) n
 | [], n => rfl
 | b :: l, n => by
   have e : numN (b :: l) n = natK (10 * n + (b.toNat - 48)) fun n => numN l n := rfl
   rw [e, za5, numN_eq l]; rfl
noncomputable def wdK (s : Bs) (k : Nat -> Bs -> Nat -> Bs -> Bool) (z : Bool) : Bool :=
 List.rec (motive := fun _ => Bool) z (fun b _ _ => natK b.toNat fun n =>
  ifK (letterN n) (spK namecN s [] fun t r => ifK (anyN keptN t) (k 2 t 0 r) (ifK (Nat.ble (lenN t) 24) (k 1 t 0 r) z))
   (ifK (digitN n) (spK digitN s [] fun t r => natK (numN t 0) fun v => ifK (Nat.blt v 9223372036854775808) (ifK (Nat.beq (lenN t) 1) (k 3 t v r) (ifK (Nat.beq n 48) z (k 3 t v r))) z)
     (sgK signs s (fun t r => k 4 t 0 r) z))) s
theorem wdK_eq (s : Bs) (k : Nat -> Bs -> Nat -> Bs -> Bool) (z : Bool) : wdK s k z = match wordS s with | some w => k w.kind w.text w.n (s.drop w.text.length) | none => z := by
 cases s with
 | nil => rfl
 | cons b r =>
   have e : wdK (b :: r) k z = natK b.toNat fun n =>
    ifK (letterN n) (spK namecN (b :: r) [] fun t r => ifK (anyN keptN t) (k 2 t 0 r) (ifK (Nat.ble (lenN t) 24) (k 1 t 0 r) z))
    (ifK (digitN n) (spK digitN (b :: r) [] fun t r => natK (numN t 0) fun v => ifK (Nat.blt v 9223372036854775808) (ifK (Nat.beq (lenN t) 1) (k 3 t v r) (ifK (Nat.beq n 48) z (k 3 t v r))) z)
      (sgK signs (b :: r) (fun t r => k 4 t 0 r) z)) := rfl
   have h48 := zaL b 48
   have e1 : (48 : UInt8).toNat = 48 := rfl
   rw [e1] at h48
   rw [e]
   simp only [za5, letterN_eq, digitN_eq, spK_eq namecN_eq, spK_eq digitN_eq, keptN_eq, zaE, numN_eq, sgK_eq, ifK_if, List.reverse_nil, List.nil_append, h48, wordS, signOf, za2, Nat.ble_eq, Nat.beq_eq, Nat.blt_eq, beq_iff_eq]
   by_cases h1 : isLetter b = true
   · simp only [Bool.false_eq_true, h1, if_true]
     by_cases h2 : kept (List.takeWhile zaV (b :: r)) = true
     · simp only [Bool.false_eq_true, h2, if_true]
     · simp only [Bool.false_eq_true, h2, if_false]
       by_cases h3 : (List.takeWhile zaV (b :: r)).length <= 24
       · simp only [Bool.false_eq_true, h3, if_true]
       · simp only [Bool.false_eq_true, h3, if_false]
   · simp only [Bool.false_eq_true, h1, if_false]
     by_cases h2 : zau b = true
     · simp only [Bool.false_eq_true, h2, if_true]
       by_cases h3 : List.foldl (fun n b => 10 * n + (b.toNat - 48)) 0 (List.takeWhile zau (b :: r)) < 9223372036854775808
       · by_cases h4 : (List.takeWhile zau (b :: r)).length = 1
         · simp only [Bool.false_eq_true, h3, h4, if_true, true_or, and_self]
         · have e48 : (b.toNat = 48) ↔ b = 48 := by
            have := zaL b 48
            rw [e1] at this
            rw [<- Nat.beq_eq, this, beq_iff_eq]
           by_cases h5 : b = 48
           · have h6 := e48.2 h5
             have h7 : ¬ (List.foldl (fun n b => 10 * n + (b.toNat - 48)) 0 (List.takeWhile zau (b :: r)) < 9223372036854775808 /\ ((List.takeWhile zau (b :: r)).length = 1 \/ b ≠ 48)) := fun ⟨_, x⟩ => by
              rcases x with x | x
              · exact h4 x
              · exact x h5
             have h5' := eq_true h5
             have h6' := eq_true h6
             simp only [h3, h4, h5', h6', ne_eq, not_true_eq_false, if_true, if_false, or_self, and_false]
           · have h6 : ¬ b.toNat = 48 := fun e => h5 (e48.1 e)
             simp only [h3, h4, h5, h6, ne_eq, not_false_eq_true, if_true, if_false, or_true, and_self]
       · simp only [Bool.false_eq_true, h3, if_false, false_and]
     · simp only [Bool.false_eq_true, h2, if_false]
       cases List.find? (fun x => x.isPrefixOf (b :: r)) signs <;> rfl
noncomputable def ctK (n : Nat) (fuel : Nat) : Bs -> List AV -> Nat -> (List AV -> Nat -> Bool) -> (Nat -> Bool) -> Bool :=
 Nat.rec (motive := fun _ => Bs -> List AV -> Nat -> (List AV -> Nat -> Bool) -> (Nat -> Bool) -> Bool) (fun _ _ _ _ _ => false)
  (fun _ ih s m c k z => skK s false fun r => List.rec (motive := fun _ => Bool) (revK (.int .i64 (.ofNat n) :: .int .i64 (.ofNat 0) :: .str [] :: .int .i64 (.ofNat 0) :: m) [] fun cs => natK (Nat.succ c) fun c => k cs c)
    (fun _ _ _ => natK (Nat.sub n (lenN r)) fun at_ => wdK r (fun kd t v q => natK (Nat.succ c) fun c => stepK (ih q (.int .i64 (.ofNat at_) :: .int .i64 (.ofNat v) :: .str t :: .int .i64 (.ofNat kd) :: m) c k z)) (z at_)) r) fuel
def cellsW : List (Nat × Wd) -> List AV
 | [] => []
 | (i, w) :: l => [.int .i64 w.kind, .str w.text, .int .i64 w.n, .int .i64 i] ++ cellsW l
theorem ctK_inv (n : Nat) : ∀ (fuel : Nat) (s : Bs) (m : List AV) (c : Nat) (k : List AV -> Nat -> Bool) (z : Nat -> Bool), ctK n fuel s m c k z = true ->
  (match cutS n s with
  | .ok l => k (m.reverse ++ cellsW l ++ [.int .i64 0, .str [], .int .i64 0, .int .i64 n]) (c + l.length + 1)
  | .error e => z e) = true
 | 0, s, m, c, k, z, h => by have h : false = true := h; simp at h
 | fuel + 1, s, m, c, k, z, h => by
   have h : (skK s false fun r => List.rec (motive := fun _ => Bool) (revK (.int .i64 (.ofNat n) :: .int .i64 (.ofNat 0) :: .str [] :: .int .i64 (.ofNat 0) :: m) [] fun cs => natK (Nat.succ c) fun c => k cs c)
    (fun _ _ _ => natK (Nat.sub n (lenN r)) fun at_ => wdK r (fun kd t v q => natK (Nat.succ c) fun c => ctK n fuel q (.int .i64 (.ofNat at_) :: .int .i64 (.ofNat v) :: .str t :: .int .i64 (.ofNat kd) :: m) c k z) (z at_)) r) = true := h
   rw [skK_eq] at h
   simp only [Bool.false_eq_true, if_false] at h
   cases hb : betw s with
   | nil =>
     rw [hb] at h
     simp only [revK_eq, za5] at h
     rw [cutS_end hb]
     simpa [cellsW] using h
   | cons b r =>
     rw [hb] at h
     simp only [za5, zaE, wdK_eq] at h
     cases hw : wordS (b :: r) with
     | none =>
       rw [hw] at h
       rw [cutS_bad hb hw]
       exact h
     | some w =>
       rw [hw] at h
       rw [cutS_word hb hw]
       have ih := ctK_inv n fuel _ _ _ _ _ h
       revert ih
       cases cutS n ((b :: r).drop w.text.length) with
       | ok l =>
         intro ih
         have e : c + (((n - (b :: r).length, w) :: l).length) + 1 = c.succ + l.length + 1 := by simp; omega
         simp only [e]
         simpa [cellsW] using ih
       | error e => exact fun ih => ih
noncomputable def cutOv (args : List AV) (H : FH) (k : AV -> FH -> Bool) : Bool :=
 oneKK args (fun a => a.onStr false fun s => natK (lenN s) fun n => ifK (Nat.ble n 140737488355328) (ifK (Nat.ble n 16384)
  (frcA s [] fun s => ctK n (Nat.succ n) s [] 0 (fun cs c => k (.tuple [.vsl cs c, .agg [.int .i64 (.ofNat 0), .int .i64 (.ofNat 0)]]) H) (fun e => k (.tuple [.nilsl, .agg [.int .i64 (.ofNat 7), .int .i64 (.ofNat e)]]) H))
  (k (.tuple [.nilsl, .agg [.int .i64 (.ofNat 2), .int .i64 (.ofNat n)]]) H)) false) false
def cutA (t : Bs) : AV := if 16384 < t.length then .tuple [.nilsl, .agg [.int .i64 2, .int .i64 t.length]] else match cutS t.length t with
 | .ok l => .tuple [.vsl (cellsW l ++ [.int .i64 0, .str [], .int .i64 0, .int .i64 t.length]) (l.length + 1), .agg [.int .i64 0, .int .i64 0]]
 | .error e => .tuple [.nilsl, .agg [.int .i64 7, .int .i64 e]]
theorem cutOv_inv {args : List AV} {H : FH} {k : AV -> FH -> Bool} (h : cutOv args H k = true) : ∃ s : Bs, args = [.str s] /\ s.length <= 140737488355328 /\ k (cutA s) H = true := by
 obtain ⟨a, rfl, h0⟩ := oneKK_inv h
 rcases AV.onStr_inv h0 with ⟨s, rfl, h1⟩ | ⟨h1, _⟩
 case inr => simp at h1
 clear h h0
 rw [za5, zaE] at h1
 obtain ⟨hb, h⟩ := zah h1
 clear h1
 have hb : s.length <= 140737488355328 := Nat.le_of_ble_eq_true hb
 refine ⟨s, rfl, hb, ?_⟩
 simp only [ifK_if, Nat.ble_eq] at h
 by_cases hl : s.length <= 16384
 · rw [if_pos hl, frcA_eq] at h
   have h1 := ctK_inv _ _ _ _ _ _ _ h
   simp only [List.reverse_nil, List.nil_append, Nat.zero_add] at h1
   unfold cutA
   rw [if_neg (by omega)]
   cases hc : cutS s.length s with
   | ok l => rw [hc] at h1; exact h1
   | error e => rw [hc] at h1; exact h1
 · rw [if_neg hl] at h
   unfold cutA
   rw [if_pos (by omega)]
   exact h
end Go.Lex
namespace Go.Abs
open Go
theorem VRel.resG {E E2 : Env} {get : Nat -> Option AObj} (hk : Knows E E2) (hlv : ∀ i cs p, get i = some (.cells cs) -> E.φ i = some p -> ∀ o, ∃ vs, InK E2 p.b (p.s + o) vs /\ VRels E (cs.drop o) vs) : ∀ (n : Nat) (v : AV) (u : Value) (r : AV), VRel E v u -> v.res get n = some r -> VRel E2 r u
 | 0, v, u, r, _, hr => by simp [AV.res] at hr
 | n + 1, v, u, r, h, hr => by
   have ih := VRel.resG hk hlv n
   cases h with
   | bool b => simp [AV.res] at hr; subst hr; exact .bool b
   | int k m => simp [AV.res] at hr; subst hr; exact .int k m
   | str s => simp [AV.res] at hr; subst hr; exact .str s
   | nilptr => simp [AV.res] at hr; subst hr; exact .nilptr
   | nilsl => simp [AV.res] at hr; subst hr; exact .nilsl
   | nilmap => simp [AV.res] at hr; subst hr; exact .nilmap
   | nilfunc => simp [AV.res] at hr; subst hr; exact .nilfunc
   | niliface => simp [AV.res] at hr; subst hr; exact .niliface
   | map h => simp [AV.res] at hr
   | csl hK hv => simp [AV.res] at hr; subst hr; exact .csl (hK.mono hk) (VRels.mono hk hv)
   | vsl0 => simp [AV.res, zaw] at hr; subst hr; exact .vsl0
   | @ptr i o p h =>
     simp only [AV.res] at hr
     split at hr <;> try (simp at hr; done)
     rename_i cs hi
     simp only [Option.map_eq_some_iff] at hr
     obtain ⟨rs, hr, rfl⟩ := hr
     obtain ⟨vs, h1, h2⟩ := hlv _ _ _ hi h o
     exact .vptr h1 (za3 ih h2 hr)
   | @sl i o z len cap c' opn p h hl hc ho hn =>
     simp only [AV.res] at hr
     split at hr <;> try (simp at hr; done)
     rename_i cs hi
     simp only [Option.map_eq_some_iff] at hr
     obtain ⟨rs, hr, rfl⟩ := hr
     obtain ⟨vs, h1, h2⟩ := hlv _ _ _ hi h o
     refine .vsl (vs := vs.take (len * z)) ?_ (za3 ih (h2.take _) hr) (Nat.le_trans hl hc)
     rcases h1 with h1 | ⟨c, e, f, g1, g2⟩
     · left; rw [h1]; simp
     · exact .inr ⟨c, e, f, g1, (List.take_prefix _ _).trans g2⟩
   | vptr hK hv =>
     simp only [AV.res, Option.map_eq_some_iff] at hr
     obtain ⟨rs, hr, rfl⟩ := hr
     exact .vptr (hK.mono hk) (za3 ih hv hr)
   | vsl hK hv hl =>
     simp only [AV.res, Option.map_eq_some_iff] at hr
     obtain ⟨rs, hr, rfl⟩ := hr
     exact .vsl (hK.mono hk) (za3 ih hv hr) hl
   | func hf hc =>
     simp only [AV.res] at hr
     split at hr <;> try (simp at hr; done)
     rename_i a b ha hb
     simp only [Option.some.injEq] at hr; subst hr
     exact .func (za3 ih hf ha) (za3 ih hc hb)
   | iface h =>
     simp only [AV.res, Option.map_eq_some_iff] at hr
     obtain ⟨rs, hr, rfl⟩ := hr
     exact .iface (ih _ _ _ h hr)
   | agg h =>
     simp only [AV.res, Option.map_eq_some_iff] at hr
     obtain ⟨rs, hr, rfl⟩ := hr
     exact .agg (za3 ih h hr)
   | tuple h =>
     simp only [AV.res, Option.map_eq_some_iff] at hr
     obtain ⟨rs, hr, rfl⟩ := hr
     exact .tuple (za3 ih h hr)
noncomputable def Env.but (E : Env) (H2 : AHeap) (w : World) : Env := { E with K := fun B => match E.K B with
 | some o => some o
 | none => match E.F B with
   | some _ => none
   | none => by
     classical
     exact if (∃ i x p, H2.get i = some x /\ E.φ i = some p /\ p.b = B) then none else w.heap[B]? }
section
variable {E : Env} {H H2 : AHeap} {w : World}
theorem but_K {B : Nat} {o : Obj} (h : E.K B = some o) : (E.but H2 w).K B = some o := by
 show (match E.K B with | some o => some o | none => _) = some o
 rw [h]
theorem but_knows : Knows E (E.but H2 w) := ⟨fun _ _ h => h, fun _ _ h => but_K h⟩
theorem but_ext : Ext E (E.but H2 w) := ⟨fun _ _ h => h, fun _ _ h => but_K h, rfl, rfl, rfl⟩
theorem but_live (hR : Rel E H w) (hs : ∀ i x, H2.get i = some x -> H.get i = some x) {i : Nat} {x : AObj} {p : Place} (hx : H2.get i = some x) (hp : E.φ i = some p) : (E.but H2 w).K p.b = none := by
 obtain ⟨q, ob, h1, h2, h3, h4, h5⟩ := hR.live i x (hs i x hx)
 rw [hp] at h1; cases h1
 show (match E.K p.b with | some o => some o | none => _) = none
 rw [h2]
 show (match E.F p.b with | some _ => none | none => _) = none
 rw [h3]
 exact if_pos ⟨i, x, p, hx, hp, rfl⟩
theorem but_new (hR : Rel E H w) (hs : ∀ i x, H2.get i = some x -> H.get i = some x) {i : Nat} {x : AObj} {p : Place} (hx : H.get i = some x) (hn : H2.get i = none) (hp : E.φ i = some p) : (E.but H2 w).K p.b = w.heap[p.b]? := by
 obtain ⟨q, ob, h1, h2, h3, h4, h5⟩ := hR.live i x hx
 rw [hp] at h1; cases h1
 show (match E.K p.b with | some o => some o | none => _) = w.heap[p.b]?
 rw [h2]
 show (match E.F p.b with | some _ => none | none => _) = w.heap[p.b]?
 rw [h3]
 refine if_neg ?_
 rintro ⟨j, y, q, hy, hq, e⟩
 have := hR.inj j i y x q p (hs j y hy) hx hq hp e
 subst this
 rw [hn] at hy; simp at hy
theorem but_rel (hR : Rel E H w) (hs : ∀ i x, H2.get i = some x -> H.get i = some x) (hn : H2.next = H.next) : Rel (E.but H2 w) H2 w := by
 refine ⟨hR.os, hR.out, fun B o hB => ?_, hR.F, fun B => ?_, fun i p hp => by rw [hn]; exact hR.dom i p hp, fun i x hi => ?_, fun i j x y p q hi hj => hR.inj i j x y p q (hs i x hi) (hs j y hj)⟩
 · have hB : (match E.K B with | some o => some o | none => match E.F B with | some _ => none | none => by classical exact if (∃ i x p, H2.get i = some x /\ E.φ i = some p /\ p.b = B) then none else w.heap[B]?) = some o := hB
   split at hB
   · rename_i o' h; cases hB; exact hR.K B o h
   · split at hB
     · simp at hB
     · split at hB
       · simp at hB
       · exact hB
 · cases hF : E.F B with
   | none => exact .inr hF
   | some o =>
     left
     rcases hR.KF B with e | e
     · show (match E.K B with | some o => some o | none => match E.F B with | some _ => none | none => _) = none
       rw [e, hF]
     · rw [hF] at e; simp at e
 · obtain ⟨p, ob, h1, h2, h3, h4, h5⟩ := hR.live i x (hs i x hi)
   exact ⟨p, ob, h1, but_live hR hs hi h1, h3, h4, h5.mono but_knows⟩
theorem but_ink (hR : Rel E H w) (hs : ∀ i x, H2.get i = some x -> H.get i = some x) {i : Nat} {cs : List AV} {p : Place} (hi : H.get i = some (.cells cs)) (hn : H2.get i = none) (hp : E.φ i = some p) (o : Nat) :
  ∃ vs, InK (E.but H2 w) p.b (p.s + o) vs /\ VRels E (cs.drop o) vs := by
 have hK := but_new hR hs hi hn hp
 obtain ⟨q, ob, h1, h2, h3, h4, c, e, fz, vs, rfl, _, h6, h7, _⟩ := hR.live i _ hi
 rw [hp] at h1; cases h1
 refine ⟨vs.drop o, .inr ⟨c, e, fz, hK.trans h4, ?_⟩, h6.drop o⟩
 obtain ⟨t, ht⟩ := h7
 rw [<- List.drop_drop, <- ht]
 by_cases ho : o <= vs.length
 · rw [List.drop_append_of_le_length ho]; exact List.prefix_append _ _
 · rw [List.drop_of_length_le (by omega)]; exact List.nil_prefix
end
def offGet (g g2 : Nat -> Option AObj) (i : Nat) : Option AObj := match g2 i with
 | some _ => none
 | none => g i
theorem Does.asFrozen {P : Program} {G : Nat -> Option AV} {f : FuncId} {args rargs : List AV} {H H2 : AHeap} {Q : AV -> AHeap -> Prop} {n : Nat} (hs : ∀ i x, H2.get i = some x -> H.get i = some x) (hn : H2.next = H.next)
  (hr : zaw (args.map (AV.res (offGet H.get H2.get) n)) = some rargs) (h : Does P G f rargs H2 Q) : Does P G f args H Q :=
 ⟨fun E w vs hR hG hv => by
  have hv2 : VRels (E.but H2 w) rargs vs := za3 (VRel.resG but_knows (fun i cs p hi hp o => by
   unfold offGet at hi
   split at hi
   · simp at hi
   · rename_i h2
     exact but_ink hR hs hi h2 hp o) n) hv hr
  refine (h.run (E.but H2 w) w vs (but_rel hR hs hn) (hG.mono but_knows) hv2).mono fun v w' ⟨r, H', E', g, e2, e3, e4⟩ => ?_
  exact ⟨r, H', E', g, but_ext.trans e2, e3, e4⟩⟩
def AV.refs (get : Nat -> Option AObj) : Nat -> AV -> List Nat
 | 0, _ => []
 | n + 1, v => match v with
   | .ptr i o => match get i with
     | some (.cells cs) => i :: (cs.drop o).flatMap (AV.refs get n)
     | _ => []
   | .sl i o z len _ _ => match get i with
     | some (.cells cs) => i :: ((cs.drop o).take (len * z)).flatMap (AV.refs get n)
     | _ => []
   | .vptr cs => cs.flatMap (AV.refs get n)
   | .vsl cs _ => cs.flatMap (AV.refs get n)
   | .iface _ v => AV.refs get n v
   | .agg cs => cs.flatMap (AV.refs get n)
   | .tuple cs => cs.flatMap (AV.refs get n)
   | _ => []
noncomputable def killsK : List Nat -> FH -> (FH -> Bool) -> Bool :=
 fun l => List.rec (motive := fun _ => FH -> (FH -> Bool) -> Bool) (fun H k => k H) (fun i _ ih H k => H.killK i (fun H => ih H k) false) l
theorem killsK_inv : ∀ {l : List Nat} {H : FH} {k : FH -> Bool}, killsK l H k = true -> ∃ H' : FH, (∀ i x, H'.abs.get i = some x -> H.abs.get i = some x) /\ H'.abs.next = H.abs.next /\ k H' = true
 | [], H, k, h => ⟨H, fun _ _ h => h, rfl, h⟩
 | i :: l, H, k, h => by
   have h : H.killK i (fun H => killsK l H k) false = true := h
   obtain ⟨H1, h1, h2⟩ := FH.killK_inv h
   obtain ⟨H', h3, h4, h5⟩ := killsK_inv h2
   refine ⟨H', fun j x hj => ?_, by rw [h4, h1]; rfl, h5⟩
   have := h3 j x hj
   rw [h1] at this
   have this : (if j = i then none else H.abs.get j) = some x := this
   split at this
   · simp at this
   · exact this
noncomputable def resOv (tab : List (List AV × AV)) (args : List AV) (H : FH) (k : AV -> FH -> Bool) : Bool :=
 killsK (args.flatMap (AV.refs H.abs.get 1000)) H fun H2 => match zaw (args.map (AV.res (offGet H.abs.get H2.abs.get) 1000)) with
  | some rargs => litOv tab rargs H2 k
  | none => false
theorem resOv_good {P : Program} {G : Nat -> Option AV} {f : FuncId} {tab : List (List AV × AV)} (ht : ∀ e ∈ tab, ∀ H, Does P G f e.1 H fun r h => r = e.2 /\ h = H) (args : List AV) (H : FH) (k : AV -> FH -> Bool) (h : resOv tab args H k = true) :
  ∃ v H', Does P G f args H.abs (fun r h => r = v /\ h = FH.abs H') /\ H.next <= H'.next /\ k v H' = true := by
 unfold resOv at h
 obtain ⟨H2, h1, h2, h⟩ := killsK_inv h
 split at h <;> try (simp at h; done)
 rename_i rargs hr
 obtain ⟨e, h3, rfl, h5⟩ := litOv_inv h
 exact ⟨e.2, H2, Does.asFrozen h1 h2 hr (ht e h3 _), Nat.le_of_eq h2.symm, h5⟩
attribute [simp] zap ayield zaJ aop aallocC alookup afind asame keyed atup amaplen amapput apure aval tput ofConst ofConst1 ofConsts abin aint2 za6 astr2 aeqIn aeqFields aun aconv aslice abounds abound afieldAddr afield aindexAddr aindex aextract alen acap amin amax abuild afill aplaces aagg apart' aread aat acut zaj zar abytes aalloc arep aeff zao acopy aclear ares aresults aresult avals apairs aopt splice Region.isConst zaz isSeq
@[simp] theorem eff_same (H : AHeap) : H.eff .same = H := rfl
@[simp] theorem eff_put (H : AHeap) (i : Nat) (x : AObj) : H.eff (.put i x) = H.set i x := rfl
@[simp] theorem eff_new (H : AHeap) (x : AObj) : H.eff (.new x) = H.push x := rfl
@[simp] theorem eff_move (H : AHeap) (i : Nat) (x : AObj) : H.eff (.move i x) = (H.kill i).push x := rfl
@[simp] theorem scalar_bool (b : Bool) : (AV.bool b).scalar = true := rfl
@[simp] theorem scalar_int (k : IntKind) (n : Int) : (AV.int k n).scalar = true := rfl
@[simp] theorem scalar_str (s : List UInt8) : (AV.str s).scalar = true := rfl
@[simp] theorem scalar_nilptr : AV.nilptr.scalar = true := rfl
@[simp] theorem scalar_ptr (i o : Nat) : (AV.ptr i o).scalar = true := rfl
@[simp] theorem scalar_vptr (c : List AV) : (AV.vptr c).scalar = true := rfl
@[simp] theorem scalar_nilsl : AV.nilsl.scalar = true := rfl
@[simp] theorem scalar_sl (i o z l c : Nat) (b : Bool) : (AV.sl i o z l c b).scalar = true := rfl
@[simp] theorem scalar_vsl (c : List AV) (n : Nat) : (AV.vsl c n).scalar = true := rfl
@[simp] theorem scalar_nilmap : AV.nilmap.scalar = true := rfl
@[simp] theorem scalar_func (f : Fn) (a b : List AV) : (AV.func f a b).scalar = true := rfl
@[simp] theorem scalar_nilfunc : AV.nilfunc.scalar = true := rfl
@[simp] theorem scalar_iface (t : TypeId) (v : AV) : (AV.iface t v).scalar = true := rfl
@[simp] theorem scalar_niliface : AV.niliface.scalar = true := rfl
@[simp] theorem cells_agg (c : List AV) : (AV.agg c).cells = c := rfl
@[simp] theorem cells_bool (b : Bool) : (AV.bool b).cells = [.bool b] := rfl
@[simp] theorem cells_int (k : IntKind) (n : Int) : (AV.int k n).cells = [.int k n] := rfl
@[simp] theorem cells_str (s : List UInt8) : (AV.str s).cells = [.str s] := rfl
@[simp] theorem cells_nilptr : AV.nilptr.cells = [.nilptr] := rfl
@[simp] theorem cells_ptr (i o : Nat) : (AV.ptr i o).cells = [.ptr i o] := rfl
@[simp] theorem cells_vptr (c : List AV) : (AV.vptr c).cells = [.vptr c] := rfl
@[simp] theorem cells_nilsl : AV.nilsl.cells = [.nilsl] := rfl
@[simp] theorem cells_sl (i o z l c : Nat) (b : Bool) : (AV.sl i o z l c b).cells = [.sl i o z l c b] := rfl
@[simp] theorem cells_vsl (c : List AV) (n : Nat) : (AV.vsl c n).cells = [.vsl c n] := rfl
@[simp] theorem scalar_csl (c : List AV) (n : Nat) : (AV.csl c n).scalar = true := rfl
@[simp] theorem cells_csl (c : List AV) (n : Nat) : (AV.csl c n).cells = [.csl c n] := rfl
@[simp] theorem cells_nilmap : AV.nilmap.cells = [.nilmap] := rfl
@[simp] theorem cells_func (f : Fn) (a b : List AV) : (AV.func f a b).cells = [.func f a b] := rfl
@[simp] theorem cells_nilfunc : AV.nilfunc.cells = [.nilfunc] := rfl
@[simp] theorem cells_iface (t : TypeId) (v : AV) : (AV.iface t v).cells = [.iface t v] := rfl
@[simp] theorem cells_niliface : AV.niliface.cells = [.niliface] := rfl
@[simp] theorem cells_tuple (v : List AV) : (AV.tuple v).cells = [.tuple v] := rfl
theorem zaa {H : AHeap} (hw : H.Wf) {i : Nat} {x : AObj} (h : H.get i = some x) : i < H.next := (hw i x h).1
@[simp] theorem push_set (H : AHeap) (x y : AObj) : (H.push x).set H.next y = H.push y := by
 refine AHeap.ext' rfl fun i => ?_
 simp only [AHeap.get_set, AHeap.get_push]
 split <;> rfl
@[simp] theorem set_set (H : AHeap) (i : Nat) (x y : AObj) : (H.set i x).set i y = H.set i y := AHeap.set_set H i x y
@[simp] theorem int_beq (a b : Int) : (a == b) = decide (a = b) := by
 rw [Bool.eq_iff_iff]; simp
theorem zaG {X : Ctx} {c : Code} {Q : Post} {T : Nat -> AV} {H : AHeap} (I : Nat -> (Nat -> AV) -> AHeap -> Prop) (n : Nat) (h0 : I n T H)
  (round : ∀ n T H, I n T H -> @AWf ⟨X⟩ ⟨c⟩ ⟨QThen (fun T' H' => ∃ m, m < n /\ I m T' H') Q⟩ ⟨T⟩ H) : @AWs ⟨X⟩ ⟨.loop c⟩ ⟨Q⟩ ⟨T⟩ H :=
 aw_loop I n h0 fun n T H h => awf_of (round n T H h)
theorem aw_wf {P : Program} {G : Nat -> Option AV} {N : Nat} {c : Code} {Q : Post} {T : Nat -> AV} {H : AHeap} (h : H.Wf -> (∀ t, (T t).idLt H.next = true) -> AW P G N c Q T H) : AW P G N c Q T H := by
 intro E0 a w hG hs
 obtain ⟨⟨E, hx, hR, hT⟩, hd⟩ := hs
 exact h hR.wf (fun t => VRel.idLt hR.dom (hT.rel t)) E0 a w hG ⟨⟨E, hx, hR, hT⟩, hd⟩
theorem zai {X : Ctx} {c : Code} {Q : Post} {T : Nat -> AV} {H : AHeap} (I : Nat -> (Nat -> AV) -> AHeap -> Prop) (n : Nat) (h0 : I n T H)
  (round : ∀ n T H, I n T H -> H.Wf -> (∀ t, (T t).idLt H.next = true) -> @AWf ⟨X⟩ ⟨c⟩ ⟨QThen (fun T' H' => ∃ m, m < n /\ I m T' H') Q⟩ ⟨T⟩ H) : @AWs ⟨X⟩ ⟨.loop c⟩ ⟨Q⟩ ⟨T⟩ H :=
 aw_loop I n h0 fun n T H h => aw_wf fun hw ht => awf_of (round n T H h hw ht)
end Go.Abs
namespace Go.Rp
open Go Go.Abs
def bV (bs : Bs) : AV := .vsl (strCs bs) bs.length
def BtA (v : AV) (bs : Bs) : Prop := (v = .nilsl /\ bs = []) \/ ∃ ts, v = .vsl (strCs bs ++ ts) bs.length
theorem BtA.bV (bs : Bs) : BtA (bV bs) bs := .inr ⟨[], by simp [Rp.bV]⟩
theorem BtA.nil : BtA .nilsl [] := .inl ⟨rfl, rfl⟩
theorem strCs_lt (n : Nat) : ∀ bs : Bs, AV.allLt n (strCs bs) = true
 | [] => rfl
 | b :: bs => by
   have := strCs_lt n bs
   simp only [strCs, List.map_cons, AV.allLt] at this ⊢
   rw [this]; rfl
theorem zac (bs : Bs) : (strCs bs).length = bs.length := by simp [strCs]
theorem strCs_app (a b : Bs) : strCs (a ++ b) = strCs a ++ strCs b := by simp [strCs]
theorem fresh_sl {P : Program} {G : Nat -> Option AV} {f : FuncId} {args : List AV} {H : AHeap} {z n : Nat} {cs : List AV} (hc : cs.length = n * z) (hp : AV.allLt H.next cs = true)
  (h : Does P G f args H fun r H1 => ∃ i cap op junk, r = .sl i 0 z n cap op /\ H.next <= i /\ H1.get i = some (.cells (cs ++ junk)) /\ ∀ j x, H.get j = some x -> H1.get j = some x) :
  Does P G f args H fun r h => r = .vsl cs n /\ h = H :=
 Does.frozen h fun hw ha r H1 ⟨i, cap, op, junk, hr, hi, hg, hs⟩ => by
  subst hr
  have e : ((cs ++ junk).drop 0).take (n * z) = cs := by rw [List.drop_zero, <- hc, List.take_left]
  refine ⟨i, cs ++ junk, hi, hg, hs, ?_, ?_⟩
  · simp only [AV.frz, if_true, e, AV.idLt]; exact hp
  · simp only [AV.frz, if_true, e, and_self]
theorem fresh_bytes {P : Program} {G : Nat -> Option AV} {f : FuncId} {args : List AV} {H : AHeap} {bs : Bs}
  (h : Does P G f args H fun r H1 => ∃ i cap op junk, r = .sl i 0 1 bs.length cap op /\ H.next <= i /\ H1.get i = some (.cells (strCs bs ++ junk)) /\ ∀ j x, H.get j = some x -> H1.get j = some x) :
  Does P G f args H fun r h => r = bV bs /\ h = H := fresh_sl (by simp [strCs]) (strCs_lt _ _) h
theorem encU_le : ∀ (k u : Nat), 0 < k -> u < 128 ^ k -> (encU u).length <= k
 | 0, _, h, _ => absurd h (Nat.lt_irrefl _)
 | k + 1, u, _, h => by
   rw [encU]
   split
   · simp
   · rename_i hu
     have hk : 0 < k := by
      rcases Nat.eq_zero_or_pos k with e | e
      · subst e; simp at h; omega
      · exact e
     have := encU_le k (u / 128) hk (by rw [Nat.pow_succ] at h; omega)
     simp only [List.length_cons]; omega
theorem zan {u : Nat} (h : u < 2 ^ 64) : (encU u).length <= 10 := encU_le 10 u (by omega) (Nat.lt_of_lt_of_le h (by decide))
theorem shr7 (u : Nat) : (u : Int).fdiv (2 ^ 7) = ((u / 128 : Nat) : Int) := by
 rw [Int.fdiv_eq_ediv_of_nonneg _ (by decide)]
 omega
theorem ofNat_u8 (u : Nat) : (.int .u8 (IntKind.u8.wrap (u : Int)) : AV) = .int .u8 (UInt8.ofNat u).toNat := by
 rw [IntKind.wrap_u8]; simp; try omega
theorem arep_len (z : AV) : ∀ n, (arep [z] n).length = n
 | 0 => rfl
 | n + 1 => by simp [arep, arep_len z n]
theorem or128' : ∀ b : BitVec 8, (b ||| 128#8).toNat = b.toNat % 128 + 128 := by decide
theorem or128 (k : Nat) : IntKind.u8.wrap (((BitVec.ofInt 8 (IntKind.u8.wrap (k : Int)) ||| BitVec.ofInt 8 128).toNat : Nat) : Int) = ((UInt8.ofNat (k % 128 + 128)).toNat : Int) := by
 have e : BitVec.ofInt 8 128 = 128#8 := rfl
 have e2 : (BitVec.ofInt 8 (IntKind.u8.wrap (k : Int))).toNat = k % 256 := by
  rw [IntKind.wrap_u8, BitVec.toNat_ofInt]; omega
 rw [e, or128', e2, IntKind.wrap_u8]
 simp
theorem or128m {m : Nat} (h : m < 256) : m ||| 128 = m % 128 + 128 := by
 have := or128' (BitVec.ofNat 8 m)
 simpa [Nat.mod_eq_of_lt h] using this
theorem or128n (k : Nat) : IntKind.u8.wrap ((((k : Int) % 256 % 2 ^ IntKind.u8.bits).toNat ||| 128 % 2 ^ IntKind.u8.bits : Nat) : Int) = ((k % 128 + 128 : Nat) : Int) := by
 have e : ((k : Int) % 256 % 2 ^ IntKind.u8.bits).toNat = k % 256 := by
  show ((k : Int) % 256 % 256).toNat = k % 256
  omega
 have e2 : 128 % 2 ^ IntKind.u8.bits = 128 := rfl
 rw [e, e2, or128m (by omega), IntKind.wrap_u8]
 omega
theorem take_cs {bs : Bs} {junk : List AV} {n : Nat} (h : n = bs.length) : List.take n (strCs bs ++ junk) = strCs bs := by rw [h]; exact List.take_left' (zac bs)
theorem drop_cs {bs : Bs} {junk : List AV} {n m : Nat} (h : n = bs.length + m) : List.drop n (strCs bs ++ junk) = junk.drop m := by rw [h, <- List.drop_drop, List.drop_left' (zac bs)]
theorem wrap_u64 (n : Int) : IntKind.u64.wrap n = n % 18446744073709551616 := by simp [IntKind.wrap, IntKind.bits, IntKind.signed]
theorem xor_ones {a : Nat} (h : a < 2 ^ 64) : a ^^^ (2 ^ 64 - 1) = 2 ^ 64 - 1 - a := by
 have e : (BitVec.ofNat 64 a ^^^ BitVec.allOnes 64).toNat = a ^^^ (2 ^ 64 - 1) := by
  rw [BitVec.toNat_xor, BitVec.toNat_allOnes, BitVec.toNat_ofNat, Nat.mod_eq_of_lt h]
 rw [<- e, BitVec.xor_allOnes, BitVec.toNat_not, BitVec.toNat_ofNat, Nat.mod_eq_of_lt h]
theorem zig_bits {v : Int} (h : i64 v) : IntKind.u64.wrap ((((IntKind.u64.wrap (IntKind.u64.wrap v * 2 ^ min 1 IntKind.u64.bits) % 2 ^ IntKind.u64.bits).toNat ^^^
  (IntKind.u64.wrap (v.fdiv (2 ^ min 63 IntKind.i64.bits)) % 2 ^ IntKind.u64.bits).toNat : Nat)) : Int) = ((zig v : Nat) : Int) := by
 obtain ⟨h1, h2⟩ := h
 have b1 : (2 : Int) ^ min 1 IntKind.u64.bits = 2 := rfl
 have b2 : (2 : Int) ^ IntKind.u64.bits = 18446744073709551616 := by rfl
 have b3 : (2 : Int) ^ min 63 IntKind.i64.bits = 9223372036854775808 := by rfl
 rw [b1, b2, b3]
 simp only [wrap_u64]
 by_cases hv : 0 <= v
 · have e1 : v.fdiv 9223372036854775808 = 0 := by rw [Int.fdiv_eq_ediv_of_nonneg _ (by decide)]; omega
   rw [e1]
   simp only [zig, hv, if_true]
   have e2 : ((v % 18446744073709551616 * 2) % 18446744073709551616 % 18446744073709551616).toNat = (2 * v).toNat := by omega
   rw [e2]
   simp
   omega
 · have e1 : v.fdiv 9223372036854775808 = -1 := by rw [Int.fdiv_eq_ediv_of_nonneg _ (by decide)]; omega
   rw [e1]
   have e2 : ((-1 : Int) % 18446744073709551616 % 18446744073709551616).toNat = 2 ^ 64 - 1 := by decide
   have e3 : ((v % 18446744073709551616 * 2) % 18446744073709551616 % 18446744073709551616).toNat = (2 * v + 18446744073709551616).toNat := by omega
   rw [e2, e3, xor_ones (by omega)]
   simp only [zig, hv, if_false]
   omega
theorem Does.frz1 {P : Program} {G : Nat -> Option AV} {f : FuncId} {args : List AV} {H : AHeap} {R R' : AV -> AHeap -> Prop} (h : Does P G f args H R)
  (hg : H.Wf -> AV.allLt H.next args = true -> ∀ r H1, R r H1 -> ∃ i cs, H.next <= i /\ H1.get i = some (.cells cs) /\ R' (r.frz i cs) (H1.frz i cs)) : Does P G f args H R' :=
 Does.wfs fun hw ha => h.ghost fun r H1 hr => by
  obtain ⟨i, cs, h1, h2, h3⟩ := hg hw ha r H1 hr
  exact ⟨_, _, Ghost.frz h2, h3⟩
theorem frz_get {H : AHeap} {i j : Nat} {cs c : List AV} (hj : H.get j = some (.cells c)) (hne : j ≠ i) : (H.frz i cs).get j = some (.cells (AV.frzs i cs c)) := by
 simp only [AHeap.frz, hj]
 rw [if_neg hne]
theorem and127' : ∀ b : BitVec 8, (b &&& 127#8).toNat = b.toNat % 128 := by decide
theorem and128' : ∀ b : BitVec 8, ((b &&& 128#8).toNat = 0) ↔ b.toNat < 128 := by decide
theorem and127 {n : Nat} (h : n < 256) : IntKind.u8.wrap ((n % 2 ^ IntKind.u8.bits &&& 127 % 2 ^ IntKind.u8.bits : Nat) : Int) = ((n % 128 : Nat) : Int) := by
 have := and127' (BitVec.ofNat 8 n)
 rw [BitVec.toNat_and, BitVec.toNat_ofNat, BitVec.toNat_ofNat] at this
 have e : n % 2 ^ IntKind.u8.bits &&& 127 % 2 ^ IntKind.u8.bits = n % 128 := by
  show n % 2 ^ 8 &&& 127 % 2 ^ 8 = n % 128
  rw [this]; omega
 rw [e, IntKind.wrap_u8]; omega
theorem and128 {n : Nat} (h : n < 256) : (IntKind.u8.wrap ((n % 2 ^ IntKind.u8.bits &&& 128 % 2 ^ IntKind.u8.bits : Nat) : Int) = 0) ↔ n < 128 := by
 have := and128' (BitVec.ofNat 8 n)
 rw [BitVec.toNat_and, BitVec.toNat_ofNat, BitVec.toNat_ofNat] at this
 have e2 : n % 2 ^ 8 = n := Nat.mod_eq_of_lt h
 rw [e2] at this
 have e3 : n % 2 ^ IntKind.u8.bits &&& 128 % 2 ^ IntKind.u8.bits = n &&& 128 % 2 ^ 8 := by
  show n % 2 ^ 8 &&& 128 % 2 ^ 8 = n &&& 128 % 2 ^ 8
  rw [e2]
 have h3 : n &&& 128 % 2 ^ 8 <= n := Nat.and_le_left
 rw [e3, IntKind.wrap_u8]
 rw [<- this]
 omega
theorem pow7 {i : Nat} (hi : i <= 8) : 2 ^ (7 * i) <= 2 ^ 56 := Nat.pow_le_pow_right (by omega) (by omega)
theorem rd_small {i n : Nat} (hi : i <= 9) (hn : n < 256) (h9 : ¬ (i = 9 /\ 1 < n)) : n % 128 * 2 ^ (7 * i) < 2 ^ 64 := by
 by_cases h : i = 9
 · subst h
   have : n <= 1 := by omega
   have e : n % 128 <= 1 := by omega
   calc n % 128 * 2 ^ (7 * 9) <= 1 * 2 ^ (7 * 9) := Nat.mul_le_mul_right _ e
    _ < 2 ^ 64 := by decide
 · have := pow7 (i := i) (by omega)
   calc n % 128 * 2 ^ (7 * i) <= 128 * 2 ^ 56 := Nat.mul_le_mul (by omega) this
    _ < 2 ^ 64 := by decide
theorem rd_shl {i m : Nat} (hi : i <= 9) (h : m * 2 ^ (7 * i) < 2 ^ 64) : IntKind.u64.wrap ((m : Int) * 2 ^ min (7 * i) IntKind.u64.bits) = ((m * 2 ^ (7 * i) : Nat) : Int) := by
 have e : min (7 * i) IntKind.u64.bits = 7 * i := by
  show min (7 * i) 64 = 7 * i
  omega
 rw [e, wrap_u64]
 have e2 : (m : Int) * 2 ^ (7 * i) = ((m * 2 ^ (7 * i) : Nat) : Int) := by push_cast; rfl
 rw [e2]; omega
theorem rd_or {i a m : Nat} (hi : i <= 9) (ha : a < 2 ^ (7 * i)) (h : m * 2 ^ (7 * i) < 2 ^ 64) :
  IntKind.u64.wrap ((a % 2 ^ IntKind.u64.bits ||| (m * 2 ^ (7 * i)) % 2 ^ IntKind.u64.bits : Nat) : Int) = ((a + m * 2 ^ (7 * i) : Nat) : Int) /\ a + m * 2 ^ (7 * i) < 2 ^ 64 := by
 have ha2 : a < 2 ^ 64 := Nat.lt_of_lt_of_le ha (Nat.pow_le_pow_right (by omega) (by omega))
 have e1 : a % 2 ^ IntKind.u64.bits = a := Nat.mod_eq_of_lt ha2
 have e2 : (m * 2 ^ (7 * i)) % 2 ^ IntKind.u64.bits = m * 2 ^ (7 * i) := Nat.mod_eq_of_lt h
 have e3 : a ||| m * 2 ^ (7 * i) = a + m * 2 ^ (7 * i) := by
  have := Nat.two_pow_add_eq_or_of_lt ha m
  rw [Nat.or_comm, Nat.mul_comm m, <- this, Nat.add_comm]
 have h4 : a ||| m * 2 ^ (7 * i) < 2 ^ 64 := Nat.or_lt_two_pow ha2 h
 rw [e1, e2, e3] at *
 exact ⟨IntWalk.u64_in _ (by omega), h4⟩
theorem drop_strCs {b : Bs} {n : Nat} {ts : List AV} (h : n <= b.length) : List.drop n (strCs b ++ ts) = strCs (b.drop n) ++ ts := by
 rw [List.drop_append_of_le_length (by rw [zac]; exact h)]
 simp [strCs, List.map_drop]
theorem rdGo_lt : ∀ (b : Bs) (i a : Nat), i <= 9 -> a < 2 ^ (7 * i) -> ∀ u t, rdGo i a b = some (u, t) -> u < 2 ^ 64 /\ t.length < b.length
 | [], _, _, _, _, _, _, h => by simp [rdGo] at h
 | x :: r, i, a, hi, ha, u, t, h => by
   rw [rdGo] at h
   have hx : x.toNat < 256 := x.toNat_lt
   split at h
   · simp at h
   · rename_i h9
     split at h
     · rename_i h128
       have h8 : i <= 8 := by omega
       have h1 : a + (x.toNat - 128) * 2 ^ (7 * i) < 2 ^ (7 * (i + 1)) := by
        rw [show 7 * (i + 1) = 7 * i + 7 by omega, Nat.pow_add]
        have h1 : (x.toNat - 128) * 2 ^ (7 * i) <= 127 * 2 ^ (7 * i) := Nat.mul_le_mul_right _ (by omega)
        omega
       obtain ⟨h2, h3⟩ := rdGo_lt r (i + 1) _ (by omega) h1 u t h
       exact ⟨h2, by simp; omega⟩
     · rename_i h128
       split at h
       · simp at h
       · simp only [Option.some.injEq, Prod.mk.injEq] at h
         obtain ⟨rfl, rfl⟩ := h
         refine ⟨?_, by simp⟩
         have h1 := rd_small hi hx h9
         have h2 : x.toNat % 128 = x.toNat := Nat.mod_eq_of_lt (by omega)
         rw [h2] at h1
         have := (rd_or hi ha h1).2
         exact this
theorem rdU_lt (r : Rd) : r.U.1 < 2 ^ 64 /\ r.U.2.b.length <= r.b.length := by
 unfold Rd.U
 split
 · rename_i u t h
   have := rdGo_lt r.b 0 0 (by omega) (by simp) u t h
   exact ⟨this.1, by simp only; omega⟩
 · simp
theorem rdS_len (r : Rd) : r.S.2.b.length <= r.b.length /\ r.S.1.length <= r.b.length := by
 have := (rdU_lt r).2
 unfold Rd.S
 split
 · simp
 · simp; omega
theorem and1 (u : Nat) : u &&& 1 = u % 2 := Nat.and_one_is_mod u
theorem unzig_bits {u : Nat} (h : u < 2 ^ 64) : IntKind.i64.wrap ((((IntKind.i64.wrap ((u : Int).fdiv (2 ^ min 1 IntKind.u64.bits)) % 2 ^ IntKind.i64.bits).toNat ^^^
  (IntKind.i64.wrap (-IntKind.i64.wrap (IntKind.u64.wrap ((u % 2 ^ IntKind.u64.bits &&& 1 % 2 ^ IntKind.u64.bits : Nat) : Int))) % 2 ^ IntKind.i64.bits).toNat : Nat)) : Int) = unzig u := by
 have b1 : (2 : Int) ^ min 1 IntKind.u64.bits = 2 := rfl
 have b2 : (2 : Int) ^ IntKind.i64.bits = 18446744073709551616 := by rfl
 have b3 : 1 % 2 ^ IntKind.u64.bits = 1 := rfl
 have b4 : u % 2 ^ IntKind.u64.bits = u := Nat.mod_eq_of_lt h
 have e1 : (u : Int).fdiv 2 = ((u / 2 : Nat) : Int) := by rw [Int.fdiv_eq_ediv_of_nonneg _ (by decide)]; omega
 rw [b1, b2, b3, b4, and1, e1]
 have e2 : IntKind.i64.wrap ((u / 2 : Nat) : Int) = ((u / 2 : Nat) : Int) := IntWalk.i64_in _ (by omega)
 have e3 : IntKind.u64.wrap ((u % 2 : Nat) : Int) = ((u % 2 : Nat) : Int) := IntWalk.u64_in _ (by omega)
 have e4 : IntKind.i64.wrap ((u % 2 : Nat) : Int) = ((u % 2 : Nat) : Int) := IntWalk.i64_in _ (by omega)
 have e5 : IntKind.i64.wrap (-((u % 2 : Nat) : Int)) = -((u % 2 : Nat) : Int) := IntWalk.i64_in _ (by omega)
 have e6 : (((u / 2 : Nat) : Int) % 18446744073709551616).toNat = u / 2 := by omega
 rw [e2, e3, e4, e5, e6]
 by_cases hu : u % 2 = 0
 · have e7 : (-((u % 2 : Nat) : Int) % 18446744073709551616).toNat = 0 := by omega
   rw [e7, Nat.xor_zero, e2]
   simp [unzig, hu]
 · have e7 : (-((u % 2 : Nat) : Int) % 18446744073709551616).toNat = 2 ^ 64 - 1 := by omega
   rw [e7, xor_ones (by omega), IntKind.wrap_i64]
   simp only [unzig, hu, if_false]
   omega
theorem unzig_i64 {u : Nat} (h : u < 2 ^ 64) : i64 (unzig u) := by unfold unzig i64; split <;> omega
theorem zaN : ∀ bs : Bs, abytes (strCs bs) = some bs
 | [] => rfl
 | b :: bs => by
   have := zaN bs
   simp only [strCs, List.map_cons, abytes] at this ⊢
   rw [this]
   simp
end Go.Rp
namespace Go.Proofs
open Go Go.Abs
@[simp] theorem Tryz.asize2 : asize Tryz.prog 2 = some 1 := by kernel_rfl
@[simp] theorem Tryz.info2 : Tryz.prog.info? 2 = some Tryz.t2 := by kernel_rfl
@[simp] theorem Tryz.tsize2 : Tryz.t2.size = 1 := by kernel_rfl
@[simp] theorem Tryz.tbytes2 : Tryz.t2.bytes = 8 := by kernel_rfl
@[simp] theorem Tryz.builder2 : zaf Tryz.prog 2 = false := by kernel_rfl
@[simp] theorem Tryz.azero2 : azero Tryz.prog 2 = some (.int .i64 (0)) := by kernel_rfl
@[simp] theorem Tryz.asize3 : asize Tryz.prog 3 = some 1 := by kernel_rfl
@[simp] theorem Tryz.info3 : Tryz.prog.info? 3 = some Tryz.t3 := by kernel_rfl
@[simp] theorem Tryz.tsize3 : Tryz.t3.size = 1 := by kernel_rfl
@[simp] theorem Tryz.tbytes3 : Tryz.t3.bytes = 8 := by kernel_rfl
@[simp] theorem Tryz.builder3 : zaf Tryz.prog 3 = false := by kernel_rfl
@[simp] theorem Tryz.azero3 : azero Tryz.prog 3 = some (.int .i64 (0)) := by kernel_rfl
@[simp] theorem Tryz.asize4 : asize Tryz.prog 4 = some 1 := by kernel_rfl
@[simp] theorem Tryz.info4 : Tryz.prog.info? 4 = some Tryz.t4 := by kernel_rfl
@[simp] theorem Tryz.tsize4 : Tryz.t4.size = 1 := by kernel_rfl
@[simp] theorem Tryz.tbytes4 : Tryz.t4.bytes = 1 := by kernel_rfl
@[simp] theorem Tryz.builder4 : zaf Tryz.prog 4 = false := by kernel_rfl
@[simp] theorem Tryz.azero4 : azero Tryz.prog 4 = some (.bool false) := by kernel_rfl
@[simp] theorem Tryz.asize5 : asize Tryz.prog 5 = some 1 := by kernel_rfl
@[simp] theorem Tryz.info5 : Tryz.prog.info? 5 = some Tryz.t5 := by kernel_rfl
@[simp] theorem Tryz.tsize5 : Tryz.t5.size = 1 := by kernel_rfl
@[simp] theorem Tryz.tbytes5 : Tryz.t5.bytes = 1 := by kernel_rfl
@[simp] theorem Tryz.builder5 : zaf Tryz.prog 5 = false := by kernel_rfl
@[simp] theorem Tryz.azero5 : azero Tryz.prog 5 = some (.int .u8 (0)) := by kernel_rfl
@[simp] theorem Tryz.asize9 : asize Tryz.prog 9 = some 1 := by kernel_rfl
@[simp] theorem Tryz.info9 : Tryz.prog.info? 9 = some Tryz.t9 := by kernel_rfl
@[simp] theorem Tryz.tsize9 : Tryz.t9.size = 1 := by kernel_rfl
@[simp] theorem Tryz.tbytes9 : Tryz.t9.bytes = 16 := by kernel_rfl
@[simp] theorem Tryz.builder9 : zaf Tryz.prog 9 = false := by kernel_rfl
@[simp] theorem Tryz.azero9 : azero Tryz.prog 9 = some (.str []) := by kernel_rfl
@[simp] theorem Tryz.asize22 : asize Tryz.prog 22 = some 1 := by kernel_rfl
@[simp] theorem Tryz.info22 : Tryz.prog.info? 22 = some Tryz.t22 := by kernel_rfl
@[simp] theorem Tryz.tsize22 : Tryz.t22.size = 1 := by kernel_rfl
@[simp] theorem Tryz.tbytes22 : Tryz.t22.bytes = 24 := by kernel_rfl
@[simp] theorem Tryz.builder22 : zaf Tryz.prog 22 = false := by kernel_rfl
@[simp] theorem Tryz.azero22 : azero Tryz.prog 22 = some (.nilsl) := by kernel_rfl
@[simp] theorem Tryz.asize24 : asize Tryz.prog 24 = some 1 := by kernel_rfl
@[simp] theorem Tryz.info24 : Tryz.prog.info? 24 = some Tryz.t24 := by kernel_rfl
@[simp] theorem Tryz.tsize24 : Tryz.t24.size = 1 := by kernel_rfl
@[simp] theorem Tryz.tbytes24 : Tryz.t24.bytes = 8 := by kernel_rfl
@[simp] theorem Tryz.builder24 : zaf Tryz.prog 24 = false := by kernel_rfl
@[simp] theorem Tryz.azero24 : azero Tryz.prog 24 = some (.nilptr) := by kernel_rfl
@[simp] theorem Tryz.asize26 : asize Tryz.prog 26 = some 1 := by kernel_rfl
@[simp] theorem Tryz.info26 : Tryz.prog.info? 26 = some Tryz.t26 := by kernel_rfl
@[simp] theorem Tryz.tsize26 : Tryz.t26.size = 1 := by kernel_rfl
@[simp] theorem Tryz.tbytes26 : Tryz.t26.bytes = 8 := by kernel_rfl
@[simp] theorem Tryz.builder26 : zaf Tryz.prog 26 = false := by kernel_rfl
@[simp] theorem Tryz.azero26 : azero Tryz.prog 26 = some (.int .i64 (0)) := by kernel_rfl
@[simp] theorem Tryz.asize32 : asize Tryz.prog 32 = some 1 := by kernel_rfl
@[simp] theorem Tryz.info32 : Tryz.prog.info? 32 = some Tryz.t32 := by kernel_rfl
@[simp] theorem Tryz.tsize32 : Tryz.t32.size = 1 := by kernel_rfl
@[simp] theorem Tryz.tbytes32 : Tryz.t32.bytes = 24 := by kernel_rfl
@[simp] theorem Tryz.builder32 : zaf Tryz.prog 32 = false := by kernel_rfl
@[simp] theorem Tryz.azero32 : azero Tryz.prog 32 = some (.nilsl) := by kernel_rfl
@[simp] theorem Tryz.asize33 : asize Tryz.prog 33 = some 1 := by kernel_rfl
@[simp] theorem Tryz.info33 : Tryz.prog.info? 33 = some Tryz.t33 := by kernel_rfl
@[simp] theorem Tryz.tsize33 : Tryz.t33.size = 1 := by kernel_rfl
@[simp] theorem Tryz.tbytes33 : Tryz.t33.bytes = 24 := by kernel_rfl
@[simp] theorem Tryz.builder33 : zaf Tryz.prog 33 = false := by kernel_rfl
@[simp] theorem Tryz.azero33 : azero Tryz.prog 33 = some (.nilsl) := by kernel_rfl
@[simp] theorem Tryz.asize36 : asize Tryz.prog 36 = some 6 := by kernel_rfl
@[simp] theorem Tryz.info36 : Tryz.prog.info? 36 = some Tryz.t36 := by kernel_rfl
@[simp] theorem Tryz.tsize36 : Tryz.t36.size = 6 := by kernel_rfl
@[simp] theorem Tryz.tbytes36 : Tryz.t36.bytes = 144 := by kernel_rfl
@[simp] theorem Tryz.builder36 : zaf Tryz.prog 36 = false := by kernel_rfl
@[simp] theorem Tryz.azero36 : azero Tryz.prog 36 = some (.agg [.nilsl, .nilsl, .nilsl, .nilsl, .nilsl, .nilsl]) := by kernel_rfl
@[simp] theorem Tryz.asize39 : asize Tryz.prog 39 = some 1 := by kernel_rfl
@[simp] theorem Tryz.info39 : Tryz.prog.info? 39 = some Tryz.t39 := by kernel_rfl
@[simp] theorem Tryz.tsize39 : Tryz.t39.size = 1 := by kernel_rfl
@[simp] theorem Tryz.tbytes39 : Tryz.t39.bytes = 24 := by kernel_rfl
@[simp] theorem Tryz.builder39 : zaf Tryz.prog 39 = false := by kernel_rfl
@[simp] theorem Tryz.azero39 : azero Tryz.prog 39 = some (.nilsl) := by kernel_rfl
@[simp] theorem Tryz.asize43 : asize Tryz.prog 43 = some 1 := by kernel_rfl
@[simp] theorem Tryz.info43 : Tryz.prog.info? 43 = some Tryz.t43 := by kernel_rfl
@[simp] theorem Tryz.tsize43 : Tryz.t43.size = 1 := by kernel_rfl
@[simp] theorem Tryz.tbytes43 : Tryz.t43.bytes = 8 := by kernel_rfl
@[simp] theorem Tryz.builder43 : zaf Tryz.prog 43 = false := by kernel_rfl
@[simp] theorem Tryz.azero43 : azero Tryz.prog 43 = some (.int .u64 (0)) := by kernel_rfl
@[simp] theorem Tryz.asize45 : asize Tryz.prog 45 = some 1 := by kernel_rfl
@[simp] theorem Tryz.info45 : Tryz.prog.info? 45 = some Tryz.t45 := by kernel_rfl
@[simp] theorem Tryz.tsize45 : Tryz.t45.size = 1 := by kernel_rfl
@[simp] theorem Tryz.tbytes45 : Tryz.t45.bytes = 24 := by kernel_rfl
@[simp] theorem Tryz.builder45 : zaf Tryz.prog 45 = false := by kernel_rfl
@[simp] theorem Tryz.azero45 : azero Tryz.prog 45 = some (.nilsl) := by kernel_rfl
@[simp] theorem Tryz.asize48 : asize Tryz.prog 48 = some 1 := by kernel_rfl
@[simp] theorem Tryz.info48 : Tryz.prog.info? 48 = some Tryz.t48 := by kernel_rfl
@[simp] theorem Tryz.tsize48 : Tryz.t48.size = 1 := by kernel_rfl
@[simp] theorem Tryz.tbytes48 : Tryz.t48.bytes = 24 := by kernel_rfl
@[simp] theorem Tryz.builder48 : zaf Tryz.prog 48 = false := by kernel_rfl
@[simp] theorem Tryz.azero48 : azero Tryz.prog 48 = some (.nilsl) := by kernel_rfl
@[simp] theorem Tryz.asize52 : asize Tryz.prog 52 = some 1 := by kernel_rfl
@[simp] theorem Tryz.info52 : Tryz.prog.info? 52 = some Tryz.t52 := by kernel_rfl
@[simp] theorem Tryz.tsize52 : Tryz.t52.size = 1 := by kernel_rfl
@[simp] theorem Tryz.tbytes52 : Tryz.t52.bytes = 24 := by kernel_rfl
@[simp] theorem Tryz.builder52 : zaf Tryz.prog 52 = false := by kernel_rfl
@[simp] theorem Tryz.azero52 : azero Tryz.prog 52 = some (.nilsl) := by kernel_rfl
@[simp] theorem Tryz.asize55 : asize Tryz.prog 55 = some 32 := by kernel_rfl
@[simp] theorem Tryz.info55 : Tryz.prog.info? 55 = some Tryz.t55 := by kernel_rfl
@[simp] theorem Tryz.tsize55 : Tryz.t55.size = 32 := by kernel_rfl
@[simp] theorem Tryz.tbytes55 : Tryz.t55.bytes = 32 := by kernel_rfl
@[simp] theorem Tryz.builder55 : zaf Tryz.prog 55 = false := by kernel_rfl
@[simp] theorem Tryz.azero55 : azero Tryz.prog 55 = some (.agg [.int .u8 (0), .int .u8 (0), .int .u8 (0), .int .u8 (0), .int .u8 (0), .int .u8 (0), .int .u8 (0), .int .u8 (0), .int .u8 (0), .int .u8 (0), .int .u8 (0), .int .u8 (0), .int .u8 (0), .int .u8 (0), .int .u8 (0), .int .u8 (0), .int .u8 (0), .int .u8 (0), .int .u8 (0), .int .u8 (0), .int .u8 (0), .int .u8 (0), .int .u8 (0), .int .u8 (0), .int .u8 (0), .int .u8 (0), .int .u8 (0), .int .u8 (0), .int .u8 (0), .int .u8 (0), .int .u8 (0), .int .u8 (0)]) := by kernel_rfl
@[simp] theorem Tryz.asize59 : asize Tryz.prog 59 = some 3 := by kernel_rfl
@[simp] theorem Tryz.info59 : Tryz.prog.info? 59 = some Tryz.t59 := by kernel_rfl
@[simp] theorem Tryz.tsize59 : Tryz.t59.size = 3 := by kernel_rfl
@[simp] theorem Tryz.tbytes59 : Tryz.t59.bytes = 40 := by kernel_rfl
@[simp] theorem Tryz.builder59 : zaf Tryz.prog 59 = false := by kernel_rfl
@[simp] theorem Tryz.azero59 : azero Tryz.prog 59 = some (.agg [.int .i64 (0), .int .u64 (0), .nilsl]) := by kernel_rfl
@[simp] theorem Tryz.asize62 : asize Tryz.prog 62 = some 3 := by kernel_rfl
@[simp] theorem Tryz.info62 : Tryz.prog.info? 62 = some Tryz.t62 := by kernel_rfl
@[simp] theorem Tryz.tsize62 : Tryz.t62.size = 3 := by kernel_rfl
@[simp] theorem Tryz.tbytes62 : Tryz.t62.bytes = 40 := by kernel_rfl
@[simp] theorem Tryz.builder62 : zaf Tryz.prog 62 = false := by kernel_rfl
@[simp] theorem Tryz.azero62 : azero Tryz.prog 62 = some (.agg [.int .u64 (0), .int .u64 (0), .nilsl]) := by kernel_rfl
@[simp] theorem Tryz.asize64 : asize Tryz.prog 64 = some 3 := by kernel_rfl
@[simp] theorem Tryz.info64 : Tryz.prog.info? 64 = some Tryz.t64 := by kernel_rfl
@[simp] theorem Tryz.tsize64 : Tryz.t64.size = 3 := by kernel_rfl
@[simp] theorem Tryz.tbytes64 : Tryz.t64.bytes = 56 := by kernel_rfl
@[simp] theorem Tryz.builder64 : zaf Tryz.prog 64 = false := by kernel_rfl
@[simp] theorem Tryz.azero64 : azero Tryz.prog 64 = some (.agg [.nilsl, .nilsl, .bool false]) := by kernel_rfl
@[simp] theorem Tryz.asize65 : asize Tryz.prog 65 = some 9 := by kernel_rfl
@[simp] theorem Tryz.info65 : Tryz.prog.info? 65 = some Tryz.t65 := by kernel_rfl
@[simp] theorem Tryz.tsize65 : Tryz.t65.size = 9 := by kernel_rfl
@[simp] theorem Tryz.tbytes65 : Tryz.t65.bytes = 168 := by kernel_rfl
@[simp] theorem Tryz.builder65 : zaf Tryz.prog 65 = false := by kernel_rfl
@[simp] theorem Tryz.azero65 : azero Tryz.prog 65 = some (.agg [.nilsl, .nilsl, .bool false, .nilsl, .nilsl, .bool false, .nilsl, .nilsl, .bool false]) := by kernel_rfl
@[simp] theorem Tryz.asize67 : asize Tryz.prog 67 = some 13 := by kernel_rfl
@[simp] theorem Tryz.info67 : Tryz.prog.info? 67 = some Tryz.t67 := by kernel_rfl
@[simp] theorem Tryz.tsize67 : Tryz.t67.size = 13 := by kernel_rfl
@[simp] theorem Tryz.tbytes67 : Tryz.t67.bytes = 192 := by kernel_rfl
@[simp] theorem Tryz.builder67 : zaf Tryz.prog 67 = false := by kernel_rfl
@[simp] theorem Tryz.azero67 : azero Tryz.prog 67 = some (.agg [.nilsl, .nilsl, .bool false, .nilsl, .nilsl, .bool false, .nilsl, .nilsl, .bool false, .bool false, .bool false, .int .i64 (0), .int .i64 (0)]) := by kernel_rfl
@[simp] theorem Tryz.asize70 : asize Tryz.prog 70 = some 1 := by kernel_rfl
@[simp] theorem Tryz.info70 : Tryz.prog.info? 70 = some Tryz.t70 := by kernel_rfl
@[simp] theorem Tryz.tsize70 : Tryz.t70.size = 1 := by kernel_rfl
@[simp] theorem Tryz.tbytes70 : Tryz.t70.bytes = 8 := by kernel_rfl
@[simp] theorem Tryz.builder70 : zaf Tryz.prog 70 = false := by kernel_rfl
@[simp] theorem Tryz.azero70 : azero Tryz.prog 70 = some (.nilptr) := by kernel_rfl
@[simp] theorem Tryz.asize73 : asize Tryz.prog 73 = some 1 := by kernel_rfl
@[simp] theorem Tryz.info73 : Tryz.prog.info? 73 = some Tryz.t73 := by kernel_rfl
@[simp] theorem Tryz.tsize73 : Tryz.t73.size = 1 := by kernel_rfl
@[simp] theorem Tryz.tbytes73 : Tryz.t73.bytes = 8 := by kernel_rfl
@[simp] theorem Tryz.builder73 : zaf Tryz.prog 73 = false := by kernel_rfl
@[simp] theorem Tryz.azero73 : azero Tryz.prog 73 = some (.nilptr) := by kernel_rfl
@[simp] theorem Tryz.asize76 : asize Tryz.prog 76 = some 1 := by kernel_rfl
@[simp] theorem Tryz.info76 : Tryz.prog.info? 76 = some Tryz.t76 := by kernel_rfl
@[simp] theorem Tryz.tsize76 : Tryz.t76.size = 1 := by kernel_rfl
@[simp] theorem Tryz.tbytes76 : Tryz.t76.bytes = 8 := by kernel_rfl
@[simp] theorem Tryz.builder76 : zaf Tryz.prog 76 = false := by kernel_rfl
@[simp] theorem Tryz.azero76 : azero Tryz.prog 76 = some (.nilptr) := by kernel_rfl
@[simp] theorem Tryz.asize84 : asize Tryz.prog 84 = some 1 := by kernel_rfl
@[simp] theorem Tryz.info84 : Tryz.prog.info? 84 = some Tryz.t84 := by kernel_rfl
@[simp] theorem Tryz.tsize84 : Tryz.t84.size = 1 := by kernel_rfl
@[simp] theorem Tryz.tbytes84 : Tryz.t84.bytes = 24 := by kernel_rfl
@[simp] theorem Tryz.builder84 : zaf Tryz.prog 84 = false := by kernel_rfl
@[simp] theorem Tryz.azero84 : azero Tryz.prog 84 = some (.nilsl) := by kernel_rfl
@[simp] theorem Tryz.asize87 : asize Tryz.prog 87 = some 1 := by kernel_rfl
@[simp] theorem Tryz.info87 : Tryz.prog.info? 87 = some Tryz.t87 := by kernel_rfl
@[simp] theorem Tryz.tsize87 : Tryz.t87.size = 1 := by kernel_rfl
@[simp] theorem Tryz.tbytes87 : Tryz.t87.bytes = 24 := by kernel_rfl
@[simp] theorem Tryz.builder87 : zaf Tryz.prog 87 = false := by kernel_rfl
@[simp] theorem Tryz.azero87 : azero Tryz.prog 87 = some (.nilsl) := by kernel_rfl
@[simp] theorem Tryz.asize95 : asize Tryz.prog 95 = some 2 := by kernel_rfl
@[simp] theorem Tryz.info95 : Tryz.prog.info? 95 = some Tryz.t95 := by kernel_rfl
@[simp] theorem Tryz.tsize95 : Tryz.t95.size = 2 := by kernel_rfl
@[simp] theorem Tryz.tbytes95 : Tryz.t95.bytes = 16 := by kernel_rfl
@[simp] theorem Tryz.builder95 : zaf Tryz.prog 95 = false := by kernel_rfl
@[simp] theorem Tryz.azero95 : azero Tryz.prog 95 = some (.agg [.int .i64 (0), .int .i64 (0)]) := by kernel_rfl
@[simp] theorem Tryz.asize100 : asize Tryz.prog 100 = some 2 := by kernel_rfl
@[simp] theorem Tryz.info100 : Tryz.prog.info? 100 = some Tryz.t100 := by kernel_rfl
@[simp] theorem Tryz.tsize100 : Tryz.t100.size = 2 := by kernel_rfl
@[simp] theorem Tryz.tbytes100 : Tryz.t100.bytes = 48 := by kernel_rfl
@[simp] theorem Tryz.builder100 : zaf Tryz.prog 100 = false := by kernel_rfl
@[simp] theorem Tryz.azero100 : azero Tryz.prog 100 = some (.agg [.nilsl, .nilsl]) := by kernel_rfl
@[simp] theorem Tryz.asize109 : asize Tryz.prog 109 = some 9 := by kernel_rfl
@[simp] theorem Tryz.info109 : Tryz.prog.info? 109 = some Tryz.t109 := by kernel_rfl
@[simp] theorem Tryz.tsize109 : Tryz.t109.size = 9 := by kernel_rfl
@[simp] theorem Tryz.tbytes109 : Tryz.t109.bytes = 104 := by kernel_rfl
@[simp] theorem Tryz.builder109 : zaf Tryz.prog 109 = false := by kernel_rfl
@[simp] theorem Tryz.azero109 : azero Tryz.prog 109 = some (.agg [.int .i64 (0), .int .i64 (0), .int .i64 (0), .int .u64 (0), .int .u64 (0), .int .u64 (0), .int .u64 (0), .nilsl, .nilsl]) := by kernel_rfl
@[simp] theorem Tryz.asize115 : asize Tryz.prog 115 = some 1 := by kernel_rfl
@[simp] theorem Tryz.info115 : Tryz.prog.info? 115 = some Tryz.t115 := by kernel_rfl
@[simp] theorem Tryz.tsize115 : Tryz.t115.size = 1 := by kernel_rfl
@[simp] theorem Tryz.tbytes115 : Tryz.t115.bytes = 8 := by kernel_rfl
@[simp] theorem Tryz.builder115 : zaf Tryz.prog 115 = false := by kernel_rfl
@[simp] theorem Tryz.azero115 : azero Tryz.prog 115 = some (.nilmap) := by kernel_rfl
@[simp] theorem Tryz.asize164 : asize Tryz.prog 164 = some 1 := by kernel_rfl
@[simp] theorem Tryz.info164 : Tryz.prog.info? 164 = some Tryz.t164 := by kernel_rfl
@[simp] theorem Tryz.tsize164 : Tryz.t164.size = 1 := by kernel_rfl
@[simp] theorem Tryz.tbytes164 : Tryz.t164.bytes = 8 := by kernel_rfl
@[simp] theorem Tryz.builder164 : zaf Tryz.prog 164 = false := by kernel_rfl
@[simp] theorem Tryz.azero164 : azero Tryz.prog 164 = some (.int .i64 (0)) := by kernel_rfl
@[simp] theorem Tryz.asize205 : asize Tryz.prog 205 = some 2 := by kernel_rfl
@[simp] theorem Tryz.info205 : Tryz.prog.info? 205 = some Tryz.t205 := by kernel_rfl
@[simp] theorem Tryz.tsize205 : Tryz.t205.size = 2 := by kernel_rfl
@[simp] theorem Tryz.tbytes205 : Tryz.t205.bytes = 32 := by kernel_rfl
@[simp] theorem Tryz.builder205 : zaf Tryz.prog 205 = false := by kernel_rfl
@[simp] theorem Tryz.azero205 : azero Tryz.prog 205 = some (.agg [.nilsl, .bool false]) := by kernel_rfl
@[simp] theorem Tryz.asize284 : asize Tryz.prog 284 = some 1 := by kernel_rfl
@[simp] theorem Tryz.info284 : Tryz.prog.info? 284 = some Tryz.t284 := by kernel_rfl
@[simp] theorem Tryz.tsize284 : Tryz.t284.size = 1 := by kernel_rfl
@[simp] theorem Tryz.tbytes284 : Tryz.t284.bytes = 4 := by kernel_rfl
@[simp] theorem Tryz.builder284 : zaf Tryz.prog 284 = false := by kernel_rfl
@[simp] theorem Tryz.azero284 : azero Tryz.prog 284 = some (.int .u32 (0)) := by kernel_rfl
@[simp] theorem Tryz.asize285 : asize Tryz.prog 285 = some 8 := by kernel_rfl
@[simp] theorem Tryz.info285 : Tryz.prog.info? 285 = some Tryz.t285 := by kernel_rfl
@[simp] theorem Tryz.tsize285 : Tryz.t285.size = 8 := by kernel_rfl
@[simp] theorem Tryz.tbytes285 : Tryz.t285.bytes = 32 := by kernel_rfl
@[simp] theorem Tryz.builder285 : zaf Tryz.prog 285 = false := by kernel_rfl
@[simp] theorem Tryz.azero285 : azero Tryz.prog 285 = some (.agg [.int .u32 (0), .int .u32 (0), .int .u32 (0), .int .u32 (0), .int .u32 (0), .int .u32 (0), .int .u32 (0), .int .u32 (0)]) := by kernel_rfl
@[simp] theorem Tryz.asize287 : asize Tryz.prog 287 = some 10 := by kernel_rfl
@[simp] theorem Tryz.info287 : Tryz.prog.info? 287 = some Tryz.t287 := by kernel_rfl
@[simp] theorem Tryz.tsize287 : Tryz.t287.size = 10 := by kernel_rfl
@[simp] theorem Tryz.tbytes287 : Tryz.t287.bytes = 64 := by kernel_rfl
@[simp] theorem Tryz.builder287 : zaf Tryz.prog 287 = false := by kernel_rfl
@[simp] theorem Tryz.azero287 : azero Tryz.prog 287 = some (.agg [.int .u32 (0), .int .u32 (0), .int .u32 (0), .int .u32 (0), .int .u32 (0), .int .u32 (0), .int .u32 (0), .int .u32 (0), .nilsl, .int .u64 (0)]) := by kernel_rfl
@[simp] theorem Tryz.asize298 : asize Tryz.prog 298 = some 4 := by kernel_rfl
@[simp] theorem Tryz.info298 : Tryz.prog.info? 298 = some Tryz.t298 := by kernel_rfl
@[simp] theorem Tryz.tsize298 : Tryz.t298.size = 4 := by kernel_rfl
@[simp] theorem Tryz.tbytes298 : Tryz.t298.bytes = 40 := by kernel_rfl
@[simp] theorem Tryz.builder298 : zaf Tryz.prog 298 = false := by kernel_rfl
@[simp] theorem Tryz.azero298 : azero Tryz.prog 298 = some (.agg [.int .i64 (0), .str [], .int .i64 (0), .int .i64 (0)]) := by kernel_rfl
@[simp] theorem Tryz.asize396 : asize Tryz.prog 396 = some 64 := by kernel_rfl
@[simp] theorem Tryz.info396 : Tryz.prog.info? 396 = some Tryz.t396 := by kernel_rfl
@[simp] theorem Tryz.tsize396 : Tryz.t396.size = 64 := by kernel_rfl
@[simp] theorem Tryz.tbytes396 : Tryz.t396.bytes = 256 := by kernel_rfl
@[simp] theorem Tryz.builder396 : zaf Tryz.prog 396 = false := by kernel_rfl
@[simp] theorem Tryz.azero396 : azero Tryz.prog 396 = some (.agg [.int .u32 (0), .int .u32 (0), .int .u32 (0), .int .u32 (0), .int .u32 (0), .int .u32 (0), .int .u32 (0), .int .u32 (0), .int .u32 (0), .int .u32 (0), .int .u32 (0), .int .u32 (0), .int .u32 (0), .int .u32 (0), .int .u32 (0), .int .u32 (0), .int .u32 (0), .int .u32 (0), .int .u32 (0), .int .u32 (0), .int .u32 (0), .int .u32 (0), .int .u32 (0), .int .u32 (0), .int .u32 (0), .int .u32 (0), .int .u32 (0), .int .u32 (0), .int .u32 (0), .int .u32 (0), .int .u32 (0), .int .u32 (0), .int .u32 (0), .int .u32 (0), .int .u32 (0), .int .u32 (0), .int .u32 (0), .int .u32 (0), .int .u32 (0), .int .u32 (0), .int .u32 (0), .int .u32 (0), .int .u32 (0), .int .u32 (0), .int .u32 (0), .int .u32 (0), .int .u32 (0), .int .u32 (0), .int .u32 (0), .int .u32 (0), .int .u32 (0), .int .u32 (0), .int .u32 (0), .int .u32 (0), .int .u32 (0), .int .u32 (0), .int .u32 (0), .int .u32 (0), .int .u32 (0), .int .u32 (0), .int .u32 (0), .int .u32 (0), .int .u32 (0), .int .u32 (0)]) := by kernel_rfl
@[simp] theorem Tryz.asize438 : asize Tryz.prog 438 = some 1 := by kernel_rfl
@[simp] theorem Tryz.info438 : Tryz.prog.info? 438 = some Tryz.t438 := by kernel_rfl
@[simp] theorem Tryz.tsize438 : Tryz.t438.size = 1 := by kernel_rfl
@[simp] theorem Tryz.tbytes438 : Tryz.t438.bytes = 16 := by kernel_rfl
@[simp] theorem Tryz.builder438 : zaf Tryz.prog 438 = false := by kernel_rfl
@[simp] theorem Tryz.azero438 : azero Tryz.prog 438 = some (.niliface) := by kernel_rfl
@[simp] theorem Tryz.asize459 : asize Tryz.prog 459 = some 256 := by kernel_rfl
@[simp] theorem Tryz.info459 : Tryz.prog.info? 459 = some Tryz.t459 := by kernel_rfl
@[simp] theorem Tryz.tsize459 : Tryz.t459.size = 256 := by kernel_rfl
@[simp] theorem Tryz.tbytes459 : Tryz.t459.bytes = 256 := by kernel_rfl
@[simp] theorem Tryz.builder459 : zaf Tryz.prog 459 = false := by kernel_rfl
@[simp] theorem Tryz.asize473 : asize Tryz.prog 473 = some 1 := by kernel_rfl
@[simp] theorem Tryz.info473 : Tryz.prog.info? 473 = some Tryz.t473 := by kernel_rfl
@[simp] theorem Tryz.tsize473 : Tryz.t473.size = 1 := by kernel_rfl
@[simp] theorem Tryz.tbytes473 : Tryz.t473.bytes = 8 := by kernel_rfl
@[simp] theorem Tryz.builder473 : zaf Tryz.prog 473 = false := by kernel_rfl
@[simp] theorem Tryz.azero473 : azero Tryz.prog 473 = some (.int .i64 (0)) := by kernel_rfl
@[simp] theorem Tryz.asize489 : asize Tryz.prog 489 = some 3 := by kernel_rfl
@[simp] theorem Tryz.info489 : Tryz.prog.info? 489 = some Tryz.t489 := by kernel_rfl
@[simp] theorem Tryz.tsize489 : Tryz.t489.size = 3 := by kernel_rfl
@[simp] theorem Tryz.tbytes489 : Tryz.t489.bytes = 48 := by kernel_rfl
@[simp] theorem Tryz.builder489 : zaf Tryz.prog 489 = false := by kernel_rfl
@[simp] theorem Tryz.azero489 : azero Tryz.prog 489 = some (.agg [.str [], .str [], .niliface]) := by kernel_rfl
end Go.Proofs
namespace Go.Proofs.YtekbjlihciedjaaGreatDoor
open Go Go.Abs Go.Rp
variable {G : Nat -> Option AV}
theorem packU_run {u : Nat} (hu : u < 2 ^ 64) {bv : AV} {bs : Bs} (hb : BtA bv bs) (hl : bs.length <= 1000000000) (H : AHeap) :
  Does Tryz.prog G 91 [bv, .int .u64 u] H fun r H1 => ∃ i cap junk, r = .sl i 0 1 (bs ++ encU u).length cap false /\ H.next <= i /\ H1.get i = some (.cells (strCs (bs ++ encU u) ++ junk)) /\ (bs ++ encU u).length + junk.length = cap /\ ∀ j x, H.get j = some x -> H1.get j = some x := by
 refine Does.wf Tryz.call91 fun hw _ => ?_
 have hlen : alen Tryz.prog 22 bv = some (.int .i64 bs.length) := by
  rcases hb with ⟨rfl, rfl⟩ | ⟨ts, rfl⟩ <;> simp [alen]
 have hfirst : ∀ get, zaj get 1 bs.length bv = some (strCs bs) := by
  intro get
  rcases hb with ⟨rfl, rfl⟩ | ⟨ts, rfl⟩
  · rfl
  · simp [zaj, zac]
 have hlo : zar bv = some bs.length := by
  rcases hb with ⟨rfl, rfl⟩ | ⟨ts, rfl⟩ <;> rfl
 have hsc : bv.scalar = true := by
  rcases hb with ⟨rfl, rfl⟩ | ⟨ts, rfl⟩ <;> rfl
 have hni : ∀ k n, bv ≠ .int k n := by
  intro k n
  rcases hb with ⟨rfl, rfl⟩ | ⟨ts, rfl⟩ <;> simp
 refine zad Tryz.call91 Tryz.func91 rfl (by simp [Tryz.f91]) ?_
 obtain ⟨N, hN⟩ : ∃ N : Nat, N = bs.length + 10 := ⟨_, rfl⟩
 have w1 : IntKind.i64.wrap ((bs.length : Int) + 10) = (N : Int) := by rw [IntWalk.i64_in _ (by omega)]; omega
 have hal : (strCs bs).all AV.scalar = true := by simp [strCs]
 have c2 : (N : Int) <= 4611686018427387904 := by omega
 have c3 : (N : Int) <= 281474976710656 := by omega
 have c4 : bs.length <= N := by omega
 simp [hlen, hlo, hsc, hfirst, w1, c2, c3, c4, hal, zac, arep_len, -arep, -alen, -zaj, -zar]
 have hold : ∀ j x, H.get j = some x -> j ≠ H.next := fun j x hj => by have := zaa hw hj; omega
 refine zai (fun k T' H' => ∃ so junk, encU u = so ++ encU k /\ k < 2 ^ 64 /\ T' 1 = .int .u64 k /\ T' 5 = .sl H.next 0 1 (bs ++ so).length N false /\
  H'.get H.next = some (.cells (strCs (bs ++ so) ++ junk)) /\ (bs ++ so).length + junk.length = N /\ ∀ j x, H.get j = some x -> H'.get j = some x) u ?_ ?_
 · refine ⟨[], (arep [AV.int IntKind.u8 0] N).drop bs.length, by simp, hu, by simp, by simp, by simp, by simp [arep_len, -arep]; omega, fun j x hj => ?_⟩
   simp [hold j x hj, hj]
 rintro k T H1 ⟨so, junk, he, hk, t1, t5, hg, hj, hs⟩ hw1 _
 have n1 : H.next ≠ H1.next := by have := zaa hw1 hg; omega
 have tk : List.take (bs.length + so.length) (strCs (bs ++ so) ++ junk) = strCs (bs ++ so) := take_cs (by simp)
 have dk : List.drop (bs.length + so.length + 1) (strCs (bs ++ so) ++ junk) = junk.drop 1 := drop_cs (by simp)
 have w2 := or128 k
 have w3 := ofNat_u8 k
 simp at w2
 have hlu := zan hu
 have hl2 : so.length + (encU k).length <= 10 := by rw [he] at hlu; simpa using hlu
 simp at hj
 by_cases h : k < 128
 · have h' : ¬ (128 : Int) <= k := by omega
   have e1 : (encU k).length = 1 := by rw [encU, if_pos h]; rfl
   have e2 : encU k = [UInt8.ofNat k] := by rw [encU, if_pos h]
   have c5 : bs.length + so.length + 1 <= N := by omega
   have c6 : bs.length + so.length + 1 <= bs.length + so.length + junk.length := by omega
   simp [t1, t5, h', hg, c5, c6, zac, n1, tk, dk, w2, w3]
   refine ⟨H.next, N, ⟨rfl, by rw [he]; simp; omega, rfl⟩, Nat.le_refl _, junk.tail, ?_, ?_, fun j x hj => ?_⟩
   · simp [he, e2, strCs]
   · simp [he, e2]; omega
   · have h1 := hold j x hj
     have h2 := zaa hw1 (hs j x hj)
     rw [if_neg h1, if_neg (by omega)]; exact hs j x hj
 · have h' : (128 : Int) <= k := by omega
   have e2 : encU k = UInt8.ofNat (k % 128 + 128) :: encU (k / 128) := by rw [encU, if_neg h]
   have e1 : 1 <= (encU (k / 128)).length := by
    have := encU_ne (k / 128)
    cases h : encU (k / 128) with
    | nil => exact absurd h this
    | cons a l => simp
   rw [e2] at hl2
   simp at hl2
   have c5 : bs.length + so.length + 1 <= N := by omega
   have c6 : bs.length + so.length + 1 <= bs.length + so.length + junk.length := by omega
   simp [t1, t5, h', hg, c5, c6, zac, n1, tk, dk, w2, w3]
   have w4 := or128n k
   refine ⟨k / 128, by omega, so ++ [UInt8.ofNat (k % 128 + 128)], by rw [he, e2]; simp, by omega, ?_, by simp; omega, junk.tail, ?_, by simp; omega, fun j x hj => ?_⟩
   · exact shr7 k
   · rw [w4]; simp [strCs]; try omega
   · have h1 := hold j x hj
     have h2 := zaa hw1 (hs j x hj)
     rw [if_neg h1, if_neg (by omega)]; exact hs j x hj
theorem zaQ {u : Nat} (hu : u < 2 ^ 64) {bv : AV} {bs : Bs} (hb : BtA bv bs) (hl : bs.length <= 1000000000) (H : AHeap) :
  Does Tryz.prog G 91 [bv, .int .u64 u] H fun r h => r = bV (bs ++ encU u) /\ h = H :=
 fresh_bytes ((packU_run hu hb hl H).mono fun r H1 ⟨i, cap, junk, h1, h2, h3, _, h4⟩ => ⟨i, cap, false, junk, h1, h2, h3, h4⟩)
theorem packI_does {v : Int} (hv : i64 v) {bv : AV} {bs : Bs} (hb : BtA bv bs) (hl : bs.length <= 1000000000) (H : AHeap) :
  Does Tryz.prog G 118 [bv, .int .i64 v] H fun r h => r = bV (bs ++ encI v) /\ h = H := by
 refine zad Tryz.call118 Tryz.func118 rfl (by simp [Tryz.f118]) ?_
 simp
 rw [zig_bits hv]
 refine zab (zaQ (zig_lt hv) hb hl H) ?_
 rintro r h ⟨rfl, rfl⟩
 simp [encI]
theorem packS_run {s : Bs} (hs : s.length <= 1000000000) {bv : AV} {bs : Bs} (hb : BtA bv bs) (hl : bs.length <= 1000000000) (H : AHeap) :
  Does Tryz.prog G 90 [bv, .str s] H fun r H1 => ∃ i cap op junk, r = .sl i 0 1 (bs ++ encS s).length cap op /\ H.next <= i /\ H1.get i = some (.cells (strCs (bs ++ encS s) ++ junk)) /\ ∀ j x, H.get j = some x -> H1.get j = some x := by
 refine Does.wf Tryz.call90 fun hw _ => ?_
 refine zad Tryz.call90 Tryz.func90 rfl (by simp [Tryz.f90]) ?_
 have w1 : IntKind.u64.wrap (s.length : Int) = (s.length : Int) := IntWalk.u64_in _ (by omega)
 simp [w1]
 refine zae (packU_run (u := s.length) (by omega) hb hl H) ?_
 rintro r H1 ⟨i, cap, junk, rfl, hi, hg, hj, hs1⟩ hw1 _
 have hal : (strCs s).all AV.scalar = true := by simp [strCs]
 have e0 : s.map (fun b => AV.int .u8 b.toNat) = strCs s := rfl
 have h10 := zan (u := s.length) (by omega)
 simp at hj
 have tk : List.take (bs.length + (encU s.length).length) (strCs (bs ++ encU s.length) ++ junk) = strCs (bs ++ encU s.length) := take_cs (by simp)
 have dk : List.drop (bs.length + (encU s.length).length + s.length) (strCs (bs ++ encU s.length) ++ junk) = junk.drop s.length := drop_cs (by simp)
 by_cases hc : bs.length + (encU s.length).length + s.length <= cap
 · have hc2 : s.length <= junk.length := by omega
   simp [e0, hal, hg, zac, hc, hc2, tk, dk]
   refine ⟨i, ⟨rfl, by simp [encS]; omega⟩, hi, ⟨junk.drop s.length, by simp [encS, strCs]⟩, fun j x hj => ?_⟩
   have := zaa hw hj
   rw [if_neg (by omega)]; exact hs1 j x hj
 · have hc2 : bs.length + (encU s.length).length + s.length <= 140737488355328 := by omega
   have hc3 : bs.length + (encU s.length).length + s.length <= 4611686018427387904 := by omega
   simp [e0, hal, hg, zac, hc, hc2, hc3, tk, dk]
   refine ⟨H1.next, ⟨rfl, by simp [encS]; omega⟩, ?_, ⟨[], by simp [encS, strCs]⟩, fun j x hj => ?_⟩
   · have := zaa hw1 hg; omega
   have := zaa hw1 (hs1 j x hj)
   rw [if_neg (by omega)]; exact hs1 j x hj
theorem packS_does {s : Bs} (hs : s.length <= 1000000000) {bv : AV} {bs : Bs} (hb : BtA bv bs) (hl : bs.length <= 1000000000) (H : AHeap) :
  Does Tryz.prog G 90 [bv, .str s] H fun r h => r = bV (bs ++ encS s) /\ h = H := fresh_bytes (packS_run hs hb hl H)
theorem frz_ptr {i k : Nat} (h : k ≠ i) (cs : List AV) : AV.frz i cs (.ptr k 0) = .ptr k 0 := by simp [AV.frz, h]
theorem packRead_run {bv : AV} {bs : Bs} (hb : BtA bv bs) (hl : bs.length <= 1000000000) (H : AHeap) :
  Does Tryz.prog G 61 [bv] H fun r h => ∃ k i cap op, r = .ptr k 0 /\ H.next <= k /\ H.next <= i /\ k ≠ i /\ h.get i = some (.cells (strCs bs)) /\ h.get k = some (.cells [.sl i 0 1 bs.length cap op, .bool false]) /\ ∀ j x, H.get j = some x -> h.get j = some x := by
 refine Does.wf Tryz.call61 fun hw _ => ?_
 have hal : (strCs bs).all AV.scalar = true := by simp [strCs]
 have c1 : bs.length <= 140737488355328 := by omega
 have c2 : bs.length <= 4611686018427387904 := by omega
 refine zad Tryz.call61 Tryz.func61 rfl (by simp [Tryz.f61]) ?_
 rcases hb with ⟨rfl, rfl⟩ | ⟨ts, rfl⟩
 · simp
   refine ⟨H.next, by omega, by omega, by simp [strCs], rfl, fun j x hj => ?_⟩
   have l := zaa hw hj
   have e0 : ¬ j = H.next := by omega
   have e1 : ¬ j = H.next + 1 := by omega
   have e2 : ¬ j = H.next + 1 + 1 := by omega
   simp [e0, e1, e2, hj]
 · by_cases h0 : bs.length = 0
   · have hb0 : bs = [] := List.length_eq_zero_iff.1 h0
     subst hb0
     simp [strCs]
     refine ⟨H.next, by omega, by omega, by simp, rfl, fun j x hj => ?_⟩
     have l := zaa hw hj
     have e0 : ¬ j = H.next := by omega
     have e1 : ¬ j = H.next + 1 := by omega
     have e2 : ¬ j = H.next + 1 + 1 := by omega
     simp [e0, e1, e2, hj]
   · have h1 : ¬ bs.length <= 0 := by omega
     simp [h0, h1, c1, c2, hal, zac]
     refine ⟨by omega, H.next + 1, by omega, by omega, by simp, rfl, fun j x hj => ?_⟩
     have l := zaa hw hj
     have e0 : ¬ j = H.next := by omega
     have e1 : ¬ j = H.next + 1 := by omega
     have e2 : ¬ j = H.next + 1 + 1 := by omega
     simp [e0, e1, e2, hj]
theorem packRead_does {bv : AV} {bs : Bs} (hb : BtA bv bs) (hl : bs.length <= 1000000000) (H : AHeap) :
  Does Tryz.prog G 61 [bv] H fun r h => ∃ k, r = .ptr k 0 /\ H.next <= k /\ (∃ v, BtA v bs /\ h.get k = some (.cells [v, .bool false])) /\ ∀ j x, H.get j = some x -> h.get j = some x := by
 refine Does.frz1 (packRead_run hb hl H) ?_
 rintro hw _ r H1 ⟨k, i, cap, op, rfl, hk, hi, hki, hgi, hgk, hs⟩
 refine ⟨i, strCs bs, hi, hgi, k, frz_ptr hki _, hk, ⟨bV bs, .bV bs, ?_⟩, AHeap.frz_old hw hi hs⟩
 rw [frz_get hgk hki]
 have e : (strCs bs).take bs.length = strCs bs := by rw [<- zac, List.take_length]
 simp [AV.frzs, AV.frz, e, bV]
def RdAt (H : AHeap) (k : Nat) (r : Rd) : Prop := ∃ v, BtA v r.b /\ H.get k = some (.cells [v, .bool r.bad])
def RdTo (H h : AHeap) (k : Nat) (r : Rd) : Prop := ∃ v, BtA v r.b /\ h = H.set k (.cells [v, .bool r.bad])
theorem RdTo.at {H h : AHeap} {k : Nat} {r : Rd} (t : RdTo H h k r) : RdAt h k r := by
 obtain ⟨v, h1, rfl⟩ := t
 exact ⟨v, h1, by simp⟩
theorem RdTo.off {H h : AHeap} {k : Nat} {r : Rd} (t : RdTo H h k r) {j : Nat} (hj : j ≠ k) : h.get j = H.get j := by
 obtain ⟨v, h1, rfl⟩ := t
 simp [hj]
theorem zaP {H : AHeap} {k : Nat} {v : AV} {b : Bool} (hk : H.get k = some (.cells [v, .bool b])) :
  Does Tryz.prog G 112 [.ptr k 0] H fun r h => h = H.set k (.cells [.nilsl, .bool true]) := by
 refine zad Tryz.call112 Tryz.func112 rfl (by simp [Tryz.f112]) ?_
 simp [hk]
theorem rdLeft_does {H : AHeap} {k : Nat} {r : Rd} (hk : RdAt H k r) : Does Tryz.prog G 65 [.ptr k 0] H fun x h => x = .int .i64 r.b.length /\ h = H := by
 obtain ⟨v, h1, h2⟩ := hk
 refine zad Tryz.call65 Tryz.func65 rfl (by simp [Tryz.f65]) ?_
 rcases h1 with ⟨rfl, h1⟩ | ⟨ts, rfl⟩
 · simp [h2, h1]
 · simp [h2]
theorem rdBad_does {H : AHeap} {k : Nat} {r : Rd} (hk : RdAt H k r) : Does Tryz.prog G 64 [.ptr k 0] H fun x h => x = .bool r.bad /\ h = H := by
 obtain ⟨v, h1, h2⟩ := hk
 refine zad Tryz.call64 Tryz.func64 rfl (by simp [Tryz.f64]) ?_
 simp [h2]
theorem rdU_does {H : AHeap} {k : Nat} {r : Rd} (hk : RdAt H k r) (hl : r.b.length <= 1000000000) : Does Tryz.prog G 62 [.ptr k 0] H fun x h => x = .int .u64 r.U.1 /\ RdTo H h k r.U.2 := by
 obtain ⟨v, hv, hk⟩ := hk
 obtain ⟨b, bad⟩ := r
 simp only at hv hk hl
 refine zad Tryz.call62 Tryz.func62 rfl (by simp [Tryz.f62]) ?_
 simp
 refine zaG (fun m T' H' => ∃ i a : Nat, i + m = 9 /\ H' = H /\ T' 0 = .ptr k 0 /\ T' 6 = .int .i64 i /\ T' 3 = .int .u64 a /\ a < 2 ^ (7 * i) /\ rdU b = rdGo i a (b.drop i)) 9 ?_ ?_
 · exact ⟨0, 0, rfl, rfl, by simp, by simp, by simp, by simp, rfl⟩
 rintro m T H1 ⟨i, a, him, rfl, t0, t6, t3, ha, hr⟩
 have i10 : (i : Int) < 10 := by omega
 by_cases hi : i < b.length
 · obtain ⟨ts, rfl⟩ : ∃ ts, v = .vsl (strCs b ++ ts) b.length := by
    rcases hv with ⟨_, h⟩ | h
    · rw [h] at hi; simp at hi
    · exact h
   have hi' : ¬ b.length <= i := by omega
   have hii : (i : Int) < b.length := by omega
   have he : b[i]? = some b[i] := List.getElem?_eq_getElem hi
   have hd : b.drop i = b[i] :: b.drop (i + 1) := List.drop_eq_getElem_cons hi
   generalize b[i] = x at he hd
   rw [hd, rdGo] at hr
   have hcs : (strCs b ++ ts)[i]? = some (.int .u8 x.toNat) := by
    rw [List.getElem?_append_left (by rw [zac]; exact hi)]
    simp [strCs, he]
   have hx := x.toNat_lt
   obtain ⟨s, hs⟩ : ∃ s, s = 7 * i := ⟨_, rfl⟩
   obtain ⟨p, hp⟩ : ∃ p, p = x.toNat % 128 := ⟨_, rfl⟩
   have w1 : IntKind.i64.wrap (7 * (i : Int)) = (s : Int) := by rw [IntWalk.i64_in _ (by omega)]; omega
   have w2 : ¬ (s : Int) < 0 := by omega
   have w3 := and127 hx
   rw [<- hp] at w3
   have w4 : IntKind.u64.wrap (p : Int) = (p : Int) := IntWalk.u64_in _ (by omega)
   by_cases hA : i = 9 /\ 1 < x.toNat
   · rw [if_pos hA] at hr
     have h9 : decide ((i : Int) = 9) = true := by simp; omega
     have hx1' : (1 : Int) < x.toNat := by omega
     simp [t0, t6, t3, hk, i10, hi', hii, hcs, hx1', h9]
     refine zab (zaP hk) ?_
     rintro r h rfl
     have e : Rd.U ⟨b, bad⟩ = (0, ⟨[], true⟩) := by simp [Rd.U, hr]
     simp [e]
     exact ⟨.nilsl, .nil, rfl⟩
   rw [if_neg hA] at hr
   have hsm := rd_small (i := i) (by omega) hx hA
   have w5 := rd_shl (i := i) (by omega) hsm
   obtain ⟨w6, w7⟩ := rd_or (i := i) (by omega) ha hsm
   rw [<- hp, <- hs] at hsm w5 w6 w7
   rw [<- hs] at hr ha
   generalize hq : p * 2 ^ s = q at hsm w5 w6 w7
   have hq' : (if 128 <= x.toNat then x.toNat - 128 else x.toNat) * 2 ^ s = q := by
    rw [<- hq]; congr 1; split <;> omega
   have wi : IntKind.i64.wrap ((i : Int) + 1) = ((i + 1 : Nat) : Int) := by rw [IntWalk.i64_in _ (by omega)]; omega
   by_cases hB : 128 <= x.toNat
   · rw [if_pos hB] at hr hq'
     rw [hq'] at hr
     have h9 : decide ((i : Int) = 9) = false := by simp; omega
     have w8 : (IntKind.u8.wrap ((x.toNat % 2 ^ IntKind.u8.bits &&& 128 % 2 ^ IntKind.u8.bits : Nat) : Int) != 0) = true := by rw [bne_iff_ne, ne_eq, and128 hx]; omega
     simp [t0, t6, t3, hk, i10, hi', hii, hcs, h9, w1, w2, w3, w4, w5, w6, w8, wi]
     have hp1 : p <= 127 := by omega
     have hlt : a + q < 2 ^ (7 * (i + 1)) := by
      rw [show 7 * (i + 1) = s + 7 by omega, Nat.pow_add, <- hq]
      have h1 : p * 2 ^ s <= 127 * 2 ^ s := Nat.mul_le_mul_right _ hp1
      omega
     exact ⟨m - 1, by omega, i + 1, by omega, by push_cast; rfl, a + q, by push_cast; rfl, hlt, hr⟩
   rw [if_neg hB] at hr hq'
   have w8 : (IntKind.u8.wrap ((x.toNat % 2 ^ IntKind.u8.bits &&& 128 % 2 ^ IntKind.u8.bits : Nat) : Int) = 0) := by rw [and128 hx]; omega
   by_cases hz : x.toNat = 0 /\ 0 < i
   · rw [if_pos hz] at hr
     have hz1 : decide (x.toNat = 0) = true := by simp; omega
     have hz2 := hz.2
     by_cases h9 : i = 9
     · skip
       have h9' : decide ((i : Int) = 9) = true := by simp; omega
       have hx1 : ¬ (1 : Int) < x.toNat := by omega
       simp [t0, t6, t3, hk, i10, hi', hii, hcs, h9', hx1, hz1, hz2, w1, w2, w3, w4, w5, w6, w8, wi]
       refine zab (zaP hk) ?_
       rintro r h rfl
       have e : Rd.U ⟨b, bad⟩ = (0, ⟨[], true⟩) := by simp [Rd.U, hr]
       simp [e]
       exact ⟨.nilsl, .nil, rfl⟩
     · skip
       have h9' : decide ((i : Int) = 9) = false := by simp; omega
       simp [t0, t6, t3, hk, i10, hi', hii, hcs, h9', hz1, hz2, w1, w2, w3, w4, w5, w6, w8, wi]
       refine zab (zaP hk) ?_
       rintro r h rfl
       have e : Rd.U ⟨b, bad⟩ = (0, ⟨[], true⟩) := by simp [Rd.U, hr]
       simp [e]
       exact ⟨.nilsl, .nil, rfl⟩
   rw [if_neg hz] at hr
   by_cases hz1 : x.toNat = 0
   · have hz2 : ¬ 0 < i := by omega
     have hz3 : decide (x.toNat = 0) = true := by simp; omega
     have h9 : ¬ i = 9 := by omega
     · skip
       have h9' : decide ((i : Int) = 9) = false := by simp; omega
       simp [t0, t6, t3, hk, i10, hi', hii, hcs, h9', hz3, hz2, w1, w2, w3, w4, w5, w6, w8, wi]
       rw [if_pos ⟨by omega, by omega⟩]
       rw [hq'] at hr
       have e : Rd.U ⟨b, bad⟩ = (a + q, ⟨b.drop (i + 1), bad⟩) := by simp [Rd.U, hr]
       by_cases hend : i + 1 < b.length
       · simp [hend, hk, e, t0]
         exact ⟨_, .inr ⟨ts, by rw [List.length_drop, <- drop_strCs (by omega)]⟩, rfl⟩
       · simp [hend, hk, e, t0]
         have e0 : b.drop (i + 1) = [] := List.drop_eq_nil_of_le (by omega)
         exact ⟨.vsl [] 0, .inr ⟨[], by rw [e0]; rfl⟩, rfl⟩
   · have hz3 : decide (x.toNat = 0) = false := by simp; omega
     by_cases h9 : i = 9
     · skip
       have h9' : decide ((i : Int) = 9) = true := by simp; omega
       have hx1 : ¬ (1 : Int) < x.toNat := by omega
       simp [t0, t6, t3, hk, i10, hi', hii, hcs, h9', hx1, hz3, w1, w2, w3, w4, w5, w6, w8, wi]
       rw [if_pos ⟨by omega, by omega⟩]
       rw [hq'] at hr
       have e : Rd.U ⟨b, bad⟩ = (a + q, ⟨b.drop (i + 1), bad⟩) := by simp [Rd.U, hr]
       by_cases hend : i + 1 < b.length
       · simp [hend, hk, e, t0]
         exact ⟨_, .inr ⟨ts, by rw [List.length_drop, <- drop_strCs (by omega)]⟩, rfl⟩
       · simp [hend, hk, e, t0]
         have e0 : b.drop (i + 1) = [] := List.drop_eq_nil_of_le (by omega)
         exact ⟨.vsl [] 0, .inr ⟨[], by rw [e0]; rfl⟩, rfl⟩
     · skip
       have h9' : decide ((i : Int) = 9) = false := by simp; omega
       simp [t0, t6, t3, hk, i10, hi', hii, hcs, h9', hz3, w1, w2, w3, w4, w5, w6, w8, wi]
       rw [if_pos ⟨by omega, by omega⟩]
       rw [hq'] at hr
       have e : Rd.U ⟨b, bad⟩ = (a + q, ⟨b.drop (i + 1), bad⟩) := by simp [Rd.U, hr]
       by_cases hend : i + 1 < b.length
       · simp [hend, hk, e, t0]
         exact ⟨_, .inr ⟨ts, by rw [List.length_drop, <- drop_strCs (by omega)]⟩, rfl⟩
       · simp [hend, hk, e, t0]
         have e0 : b.drop (i + 1) = [] := List.drop_eq_nil_of_le (by omega)
         exact ⟨.vsl [] 0, .inr ⟨[], by rw [e0]; rfl⟩, rfl⟩
 · have hi' : b.length <= i := by omega
   have hd : b.drop i = [] := List.drop_eq_nil_of_le hi'
   rw [hd, rdGo] at hr
   have hlv : alen Tryz.prog 22 v = some (.int .i64 b.length) := by
    rcases hv with ⟨rfl, rfl⟩ | ⟨ts, rfl⟩ <;> simp [alen]
   simp [t0, t6, t3, hk, i10, hi', hlv, -alen]
   refine zab (zaP hk) ?_
   rintro r h rfl
   have e : Rd.U ⟨b, bad⟩ = (0, ⟨[], true⟩) := by simp [Rd.U, hr]
   simp [e]
   exact ⟨.nilsl, .nil, rfl⟩
theorem rdI_does {H : AHeap} {k : Nat} {r : Rd} (hk : RdAt H k r) (hl : r.b.length <= 1000000000) : Does Tryz.prog G 70 [.ptr k 0] H fun x h => x = .int .i64 r.I.1 /\ RdTo H h k r.I.2 := by
 refine zad Tryz.call70 Tryz.func70 rfl (by simp [Tryz.f70]) ?_
 simp
 refine zab (rdU_does hk hl) ?_
 rintro x h ⟨rfl, ht⟩
 simp
 rw [unzig_bits (rdU_lt r).1]
 exact ⟨rfl, ht⟩
theorem rdS_does {H : AHeap} {k : Nat} {r : Rd} (hk : RdAt H k r) (hl : r.b.length <= 1000000000) : Does Tryz.prog G 63 [.ptr k 0] H fun x h => x = .str r.S.1 /\ RdTo H h k r.S.2 := by
 refine zad Tryz.call63 Tryz.func63 rfl (by simp [Tryz.f63]) ?_
 simp
 refine zab (rdU_does hk hl) ?_
 rintro x h ⟨rfl, v, hv, rfl⟩
 have hlu := rdU_lt r
 generalize hru : r.U = ru at hv hlu
 obtain ⟨u, b, bad⟩ := ru
 simp only at hv hlu
 have hS : r.S = if b.length < u then ([], ⟨[], true⟩) else (b.take u, ⟨b.drop u, bad⟩) := by simp [Rd.S, hru]
 have w1 : IntKind.u64.wrap (b.length : Int) = (b.length : Int) := IntWalk.u64_in _ (by omega)
 have w0 : IntKind.u64.wrap 0 = 0 := IntWalk.u64_in _ (by omega)
 by_cases hu : b.length < u
 · rw [if_pos hu] at hS
   have hu' : (b.length : Int) < u := by omega
   have hlv : alen Tryz.prog 22 v = some (.int .i64 b.length) := by
    rcases hv with ⟨rfl, rfl⟩ | ⟨ts, rfl⟩ <;> simp [alen]
   simp [hru, hlv, w1, hu, hu', -alen]
   refine zab (zaP (v := v) (b := bad) (by simp)) ?_
   rintro x h rfl
   simp [hS]
   exact ⟨.nilsl, .nil, rfl⟩
 · rw [if_neg hu] at hS
   have hu' : ¬ (b.length : Int) < u := by omega
   rcases hv with ⟨rfl, rfl⟩ | ⟨ts, rfl⟩
   · simp at hu
     subst hu
     simp [hru, hS, w0]
     exact ⟨.nilsl, .nil, by simp⟩
   · have hle : u <= b.length := by omega
     have hmin : min u b.length = u := by omega
     have hlt2 : u <= b.length + ts.length := by omega
     by_cases h0 : 0 < b.length
     · have ht : List.take u (strCs b ++ ts) = strCs (b.take u) := by
        rw [List.take_append_of_le_length (by rw [zac]; exact hle)]; simp [strCs, List.map_take]
       by_cases hlt : u < b.length
       · simp [hru, hS, w1, hu, hu', hle, h0, hlt, ht, hlt2, zaN, zac, -abytes]
         exact ⟨_, .inr ⟨ts, by rw [List.length_drop, <- drop_strCs hle]⟩, rfl⟩
       · simp [hru, hS, w1, hu, hu', hle, h0, hlt, ht, hlt2, zaN, zac, -abytes]
         have e0 : b.drop u = [] := List.drop_eq_nil_of_le (by omega)
         exact ⟨.vsl [] 0, .inr ⟨[], by rw [e0]; rfl⟩, rfl⟩
     · have hb0 : b = [] := List.length_eq_zero_iff.1 (by omega)
       subst hb0
       have hu0 : u = 0 := by simpa using hle
       subst hu0
       simp [hru, hS, w0]
       exact ⟨.vsl [] 0, .inr ⟨[], rfl⟩, by simp⟩
end Go.Proofs.YtekbjlihciedjaaGreatDoor
