/-
  A simplified meaning for Go code, ninth part: what lays a new block.
-/
import Derived.Test.YtcbiaeoladjecaaAbsH
namespace Go.Abs
open Go

/-- One object more in the model's heap. -/
theorem Rel.push {E : Env} {H : AHeap} {w w' : World} (h : Rel E H w) {cs : List AV} {vs : List Value} {c : Array Value} {e : TypeId} {fz : Nat × Nat}
    (hw : w'.heap = w.heap.push (.cells c e fz)) (ho : w'.os = w.os) (hu : w'.output = w.output)
    (hv : VRels E cs vs) (hp : vs <+: c.toList) (hfz : Unfr fz c.size) :
    Rel (E.put H.next ⟨w.heap.size, 0, c.size⟩) (H.push (.cells cs)) w' := by
  have := h.alloc cs vs c e fz hv hp hfz
  have e1 : (w.alloc (.cells c e fz)).heap = w'.heap := by rw [hw]; rfl
  refine ⟨ho.trans h.os, hu.trans h.out, fun B o hb => ?_, fun B o hb => ?_, this.KF, this.dom, fun i x hi => ?_, this.inj⟩
  · rw [← e1]; exact this.K B o hb
  · rw [← e1]; exact this.F B o hb
  · obtain ⟨p, ob, g1, g2, g3, g4, g5⟩ := this.live i x hi
    exact ⟨p, ob, g1, g2, g3, by rw [← e1]; exact g4, g5⟩

/-- A new block with these cells is laid, and f of its number is handed back. -/
def Lays (P : Program) (E : Env) (σ : Operand → Value) (o : Oper) (cs : List AV) (f : Nat → AV) : Prop :=
  ∃ vs, VRels E cs vs ∧ ∀ w : World, ∃ c e fz v w', (execOp σ o).run P w = .ok (.value v) w' ∧ w'.heap = w.heap.push (.cells c e fz) ∧ w'.os = w.os ∧ w'.output = w.output ∧
    vs <+: c.toList ∧ Unfr fz c.size ∧ ∀ (E' : Env) (i : Nat), E'.φ i = some ⟨w.heap.size, 0, c.size⟩ → VRel E' (f i) v

/-- c copies of zs, one behind the other. -/
def arep (zs : List AV) : Nat → List AV
  | 0 => []
  | c + 1 => zs ++ arep zs c
def vrep (zs : List Value) : Nat → List Value
  | 0 => []
  | c + 1 => zs ++ vrep zs c

theorem arep_rel {E : Env} {zs : List AV} {us : List Value} (h : VRels E zs us) : ∀ c, VRels E (arep zs c) (vrep us c)
  | 0 => .nil
  | c + 1 => h.append (arep_rel h c)

theorem vrep_length (zs : List Value) : ∀ c, (vrep zs c).length = c * zs.length
  | 0 => by simp [vrep]
  | c + 1 => by simp [vrep, vrep_length zs c, Nat.add_mul, Nat.add_comm]

theorem vrep_get? (zs : List Value) : ∀ (c j : Nat), j < c * zs.length → (vrep zs c)[j]? = zs[j % zs.length]?
  | 0, j, h => by simp at h
  | c + 1, j, h => by
    simp only [vrep, List.getElem?_append]
    split
    · rename_i hj; rw [Nat.mod_eq_of_lt hj]
    · rename_i hj
      rw [vrep_get? zs c _ (by rw [Nat.add_mul] at h; omega)]
      congr 1
      rw [← Nat.mod_eq_sub_mod (by omega)]

theorem range_map_mod (z : Array Value) (c : Nat) : ((Array.range (c * z.size)).map fun i => z[i % z.size]!).toList = vrep z.toList c := by
  apply List.ext_getElem?
  intro j
  rw [Array.toList_map, Array.toList_range, List.getElem?_map]
  by_cases hj : j < c * z.size
  · rw [List.getElem?_range hj, vrep_get? _ _ _ (by simpa using hj)]
    have hz : 0 < z.size := by
      rcases Nat.eq_zero_or_pos z.size with q | q
      · rw [q] at hj; simp at hj
      · exact q
    have hm : j % z.size < z.size := Nat.mod_lt _ hz
    simp [hm]
  · rw [List.getElem?_eq_none (by simp; omega), List.getElem?_eq_none (by rw [vrep_length]; simpa using hj)]
    rfl

def aalloc (P : Program) (ρ : Operand → Option AV) (o : Oper) : Option (List AV × (Nat → AV)) :=
  match o.op with
  | .alloc t => match azero P t with
    | some z => some (z.cells, fun i => .ptr i 0)
    | none => none
  | .box _ x => match ρ x with
    | some a => some (a.cells, fun i => .ptr i 0)
    | none => none
  | .buildSlice t len ps => match P.underlying t with
    | some (.slice e) => match asize P e, azero P e, apairs ρ ps.toList with
      | some n, some z, some qs => if z.cells.length = n ∧ len * n ≤ 16777216 then
          match afill (fun i => some (i * n, n)) (arep z.cells len) qs with
          | some cs => some (cs, fun i => .sl i 0 n len len false)
          | none => none
        else none
      | _, _, _ => none
    | _ => none
  | .makeSlice t l c => match P.underlying t with
    | some (.slice e) => match P.info? e, azero P e, ρ l, ρ c with
      | some info, some z, some (.int _ l), some (.int _ c) =>
        if z.cells.length = info.size ∧ 0 ≤ l ∧ l ≤ c ∧ c ≤ 4611686018427387904 ∧ info.bytes * c ≤ 281474976710656 then
          some (arep z.cells c.toNat, fun i => .sl i 0 info.size l.toNat c.toNat false)
        else none
      | _, _, _, _ => none
    | _ => none
  | .convert s d x => match P.underlying s, P.underlying d, ρ x with
    | some .string, some (.slice e), some (.str bs) => match P.underlying e with
      | some (.int .u8) => some (bs.map fun b => .int .u8 b.toNat, fun i => .sl i 0 1 bs.length bs.length true)
      | _ => none
    | _, _, _ => none
  | _ => none

theorem lays_row {P : Program} {E : Env} {σ : Operand → Value} {o : Oper} {cs : List AV} {vs : List Value} {f : Nat → AV} {g : Nat → Value} {t : TypeId} (hv : VRels E cs vs)
    (hrun : ∀ w, (execOp σ o).run P w = .ok (.value (g w.heap.size)) (w.alloc (.cells vs.toArray t)))
    (hf : ∀ (E' : Env) (i B : Nat), E'.φ i = some ⟨B, 0, vs.length⟩ → VRel E' (f i) (g B)) : Lays P E σ o cs f :=
  ⟨vs, hv, fun w => ⟨vs.toArray, t, (0, 0), g w.heap.size, w.alloc (.cells vs.toArray t), hrun w, rfl, rfl, rfl, by simp, .inl rfl, fun E' i h => hf E' i _ (by simpa using h)⟩⟩

theorem aalloc_sound {P : Program} {E : Env} {ρ : Operand → Option AV} {σ : Operand → Value} {o : Oper} {cs : List AV} {f : Nat → AV} (hr : Operands E ρ σ o.op.operands.toList) (h : aalloc P ρ o = some (cs, f)) : Lays P E σ o cs f := by
  obtain ⟨dst, op, ty, pos, after, guard⟩ := o
  cases op <;> simp only [aalloc] at h <;> simp only [Op.operands] at hr <;> try (simp at h; done)
  case alloc t =>
    split at h <;> try (simp at h; done)
    rename_i z hz
    simp only [Option.some.injEq, Prod.mk.injEq] at h; obtain ⟨rfl, rfl⟩ := h
    obtain ⟨zv, h1, h2⟩ := run_azero E hz
    refine lays_row (g := fun B => .pointer (some ⟨B, 0, none⟩)) (t := t) h1.cells (fun w => ?_) (fun E' i B hi => .ptr hi)
    simp [execOp, Instr.alloc, h2, newVar, newRow]
  case box t x =>
    split at h <;> try (simp at h; done)
    rename_i a ha
    simp only [Option.some.injEq, Prod.mk.injEq] at h; obtain ⟨rfl, rfl⟩ := h
    have hx := hr x (by simp) _ ha
    refine lays_row (g := fun B => .pointer (some ⟨B, 0, none⟩)) (t := t) hx.cells (fun w => ?_) (fun E' i B hi => .ptr hi)
    simp [execOp, Instr.box, newVar, newRow]
  case buildSlice t len ps =>
    split at h <;> try (simp at h; done)
    rename_i e ht
    split at h <;> try (simp at h; done)
    rename_i n z qs hn hz hq
    split at h <;> try (simp at h; done)
    rename_i hb
    split at h <;> try (simp at h; done)
    rename_i cs' hcs
    simp only [Option.some.injEq, Prod.mk.injEq] at h; obtain ⟨rfl, rfl⟩ := h
    obtain ⟨zv, h1, h2⟩ := run_azero E hz
    have hzl := h1.cells.length
    rw [hb.1] at hzl
    simp only [Array.length_toList] at hzl
    have hp := apairs_sound (E := E) (σ := σ) (fun x hx => hr x hx) hq
    have hrep : VRels E (arep z.cells len) ((Array.range (len * zv.cells.size)).map fun i => zv.cells[i % zv.cells.size]!).toList := by
      rw [range_map_mod]; exact arep_rel h1.cells len
    obtain ⟨d, h3, h4⟩ := afill_sound (fun i => some (i * n, n)) _ _ _ _ _ hp hrep hcs
    have hd : d.size = len * n := by
      have e1 : ∀ (qs : List (Nat × Value)) (c d : Array Value), Instr.fill (fun i => some (i * n, n)) c qs = some d → d.size = c.size := by
        intro qs
        induction qs with
        | nil => intro c d h; simp [Instr.fill] at h; subst h; rfl
        | cons q qs ih =>
          intro c d h
          obtain ⟨i, v⟩ := q
          simp only [Instr.fill] at h
          split at h
          · simp at h
          · rw [ih _ _ h]
            have : ∀ (l : List (Value × Nat)) (c : Array Value), (l.foldl (fun cs (x : Value × Nat) => cs.setIfInBounds (i * n + x.2) x.1) c).size = c.size := by
              intro l
              induction l with
              | nil => intro c; rfl
              | cons x l ih => intro c; simp only [List.foldl_cons, ih, Array.size_setIfInBounds]
            rw [← Array.foldl_toList, this]
      rw [e1 _ _ _ h3]
      simp [hzl]
    refine lays_row (vs := d.toList) (g := fun B => .slice (some ⟨B, 0, none⟩) len len) (t := e) h4 (fun w => ?_) (fun E' i B hi => ?_)
    · have hlist : (ps.map fun (i, x) => (i, σ x)).toList = ps.toList.map fun (i, x) => (i, σ x) := by simp
      have h3' : Instr.fill (fun i => some (i * n, n)) ((Array.range (len * n)).map fun i => zv.cells[i % zv.cells.size]!) (ps.map fun (i, x) => (i, σ x)).toList = some d := by
        rw [hlist, ← h3, hzl]
      have hlim : ¬ (len * n > 2 ^ 24) := by omega
      by_cases h0 : len * n = 0
      · have h3'' : Instr.fill (fun i => some (i * n, n)) ((Array.range (len * n)).map fun i => (#[] : Array Value)[i % (#[] : Array Value).size]!) (ps.map fun (i, x) => (i, σ x)).toList = some d := by
          rw [← h3', h0, Array.range_zero', Array.map_empty, Array.map_empty]
        simp only [execOp, Instr.buildSlice, Sem.run_bind, run_underlying ht, Result.andThen_ok, run_asize hn, Sem.run_ite, if_neg hlim, if_pos h0, Sem.run_pure]
        simp only [h3'']
        simp [newRow]
      · simp only [execOp, Instr.buildSlice, Sem.run_bind, run_underlying ht, Result.andThen_ok, run_asize hn, Sem.run_ite, if_neg hlim, if_neg h0, Sem.run_pure, h2]
        simp only [h3']
        simp [newRow]
    · have := VRel.sl (E := E') (i := i) (o := 0) (z := n) (len := len) (cap := len) (c' := len) (opn := false) hi (Nat.le_refl _) (Nat.le_refl _) (fun _ => rfl) (by simp [hd])
      simpa using this
  case makeSlice t l c =>
    split at h <;> try (simp at h; done)
    rename_i e ht
    split at h <;> try (simp at h; done)
    rename_i info z kl l' kc c' hi hz hl hc
    split at h <;> try (simp at h; done)
    rename_i hb
    obtain ⟨hb1, hb2, hb3, hb4, hb5⟩ := hb
    simp only [Option.some.injEq, Prod.mk.injEq] at h; obtain ⟨rfl, rfl⟩ := h
    have hlv := hr l (by simp) _ hl
    have hcv := hr c (by simp) _ hc
    unfold azero at hz
    rw [hi] at hz
    simp only at hz
    split at hz <;> try (simp at hz; done)
    rename_i zv hzv
    have h1 := ofConst_rel E hz
    have hzl := h1.cells.length
    rw [hb1] at hzl
    simp only [Array.length_toList] at hzl
    have hlen : (vrep zv.cells.toList c'.toNat).length = c'.toNat * info.size := by rw [vrep_length]; simp [hzl]
    refine lays_row (vs := vrep zv.cells.toList c'.toNat) (g := fun B => .slice (some ⟨B, 0, none⟩) l'.toNat c'.toNat) (t := e) (arep_rel h1.cells _) (fun w => ?_) (fun E' i B hi => ?_)
    · have e1 : σ l = .int kl l' := by generalize σ l = u at hlv; cases hlv; rfl
      have e2 : σ c = .int kc c' := by generalize σ c = u at hcv; cases hcv; rfl
      have e3 : (vrep zv.cells.toList c'.toNat).toArray = ((Array.range (c'.toNat * info.size)).map fun i => zv.cells[i % zv.cells.size]!) := by
        rw [← hzl, ← range_map_mod]
      have hmk := run_make (P := P) w t e info zv ht hi hzv kl kc l' c' hb2 hb3 hb5 (by omega)
      rw [e3]
      simp only [execOp, e1, e2, Sem.run_bind, hmk, Result.andThen_ok, Sem.run_pure]
      rfl
    · have := VRel.sl (E := E') (i := i) (o := 0) (z := info.size) (len := l'.toNat) (cap := c'.toNat) (c' := c'.toNat) (opn := false) hi (by omega) (Nat.le_refl _) (fun _ => rfl) (by simp [hlen])
      simpa using this
  case convert s d x =>
    split at h <;> try (simp at h; done)
    rename_i e bs hs hd hx
    split at h <;> try (simp at h; done)
    rename_i he
    simp only [Option.some.injEq, Prod.mk.injEq] at h; obtain ⟨rfl, rfl⟩ := h
    have hxv := hr x (by simp) _ hx
    refine ⟨bs.map fun b => Value.int .u8 b.toNat, VRels.bytes bs, fun w => ?_⟩
    have e1 : σ x = .string ⟨bs.toArray⟩ := by generalize σ x = u at hxv; cases hxv; rfl
    have hsz : (ByteArray.mk bs.toArray).size = bs.length := by simp [ByteArray.size]
    let cap := (Question.appendCap bs.length 0 e).cut (w.tape w.drawn (.appendCap bs.length 0 e))
    have hcap : bs.length ≤ cap := by
      show bs.length ≤ bs.length + _
      omega
    let row : Array Value := (bs.map fun b => Value.int .u8 b.toNat).toArray ++ Array.replicate (cap - bs.length) (.int .u8 0)
    have hrow : row.size = cap := by simp [row]; omega
    refine ⟨row, e, (cap, cap + 1), .slice (some ⟨w.heap.size, 0, none⟩) bs.length cap, (w.drew.alloc (.cells row e)).freeze { block := w.heap.size, off := row.size } 1, ?_, ?_, rfl, rfl, ?_, ?_, ?_⟩
    · have hconv : (convert s d (.string ⟨bs.toArray⟩)).run P w = (Conv.stringToBytes e ⟨bs.toArray⟩).run P w := by
        simp only [convert, Sem.run_bind, run_underlying hs, run_underlying hd, Result.andThen_ok, run_underlying he]
      simp only [execOp, e1, Sem.run_bind, hconv]
      have hmap : ((ByteArray.mk bs.toArray).data.map fun b => Value.int .u8 b.toNat) = (bs.map fun b => Value.int .u8 b.toNat).toArray := by simp
      simp only [Conv.stringToBytes, Sem.run_bind, run_choose, hsz, Question.forced, Bool.false_eq_true, if_false, Result.andThen_ok, newRow, run_newObj, Sem.run_pure, markStringish, run_shape, hmap]
      have hshape : ∀ (C : Array Value), World.shape? (World.mk (w.heap.push (.cells C e)) w.tape (w.drawn + 1) w.os w.output) w.heap.size = some (e, C.size) := fun C => by
        simp [World.shape?]
      rw [hshape]
      rfl
    · simp only [World.freeze]
      rw [if_neg (by omega)]
      simp only [World.alloc, World.drew]
      apply Array.ext_getElem?
      intro k
      rw [Array.getElem?_modify]
      by_cases hk : w.heap.size = k
      · subst hk
        simp [hrow]
      · rw [if_neg hk, Array.getElem?_push, Array.getElem?_push, if_neg (fun e => hk e.symm), if_neg (fun e => hk e.symm)]
    · simp [row]
    · exact .inr (by rw [hrow]; exact Nat.le_refl _)
    · intro E' i hi
      have := VRel.sl (E := E') (i := i) (o := 0) (z := 1) (len := bs.length) (cap := bs.length) (c' := cap) (opn := true) hi (Nat.le_refl _) hcap (fun h => by simp at h) (by simp [hrow])
      simpa using this

end Go.Abs
