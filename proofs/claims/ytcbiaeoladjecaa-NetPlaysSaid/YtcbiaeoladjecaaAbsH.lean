/-
  A simplified meaning for Go code, eighth part: what reads memory, what lays a new block.
-/
import Derived.Test.YtcbiaeoladjecaaAbsG
import Derived.Laws.BytesString
import Derived.Laws.MakeOwn
namespace Go.Abs
open Go

/-! ### reads -/

/-- What an address leads to: the cells from there on. -/
def aat (get : Nat → Option AObj) : AV → Option (List AV)
  | .ptr i o => match get i with
    | some (.cells cs) => if o ≤ cs.length then some (cs.drop o) else none
    | none => none
  | .vptr cs => some cs
  | _ => none

def acut (P : Program) (t : TypeId) (cs : List AV) : Option AV := match aagg P t, asize P t with
  | some true, some n => if n ≤ cs.length then some (.agg (cs.take n)) else none
  | some false, some _ => cs[0]?
  | _, _ => none

theorem run_loadVar_of {P : Program} {E : Env} {t : TypeId} {B o : Nat} {cs : List AV} {r : AV} {w : World} (h : acut P t cs = some r)
    (hrd : ∀ n, n ≤ cs.length → ∃ vs, (loadCells ⟨B, o, none⟩ n).run P w = .ok vs.toArray w ∧ VRels E (cs.take n) vs)
    (h1 : ∀ a, cs[0]? = some a → ∃ v, w.cell? ⟨B, o, none⟩ = some v ∧ VRel E a v) :
    ∃ v, VRel E r v ∧ (loadVar t ⟨B, o, none⟩).run P w = .ok v w := by
  unfold acut at h
  split at h
  · rename_i n ha hn
    split at h
    · rename_i hl
      simp only [Option.some.injEq] at h; subst h
      obtain ⟨vs, g1, g2⟩ := hrd n hl
      refine ⟨.agg vs.toArray, .agg g2, ?_⟩
      simp [loadVar, run_aagg ha, run_asize hn, g1]
    · simp at h
  · rename_i n ha hn
    obtain ⟨v, g1, g2⟩ := h1 r h
    refine ⟨v, g2, ?_⟩
    simp [loadVar, run_aagg ha, g1]
  · simp at h

theorem aat_load {P : Program} {E : Env} {H : AHeap} {w : World} (hR : Rel E H w) {t : TypeId} {x : AV} {cs : List AV} {r : AV} {u : Value} (ha : aat H.get x = some cs) (hc : acut P t cs = some r) (hx : VRel E x u) :
    ∃ v, VRel E r v ∧ (Instr.loadAt t u).run P w = .ok v w := by
  unfold aat at ha
  split at ha
  · rename_i i o
    split at ha
    · rename_i cs0 hi
      split at ha
      · rename_i hl
        simp only [Option.some.injEq] at ha; subst ha
        cases hx with | ptr hp =>
        rename_i p
        obtain ⟨v, g1, g2⟩ := run_loadVar_of (P := P) (E := E) (B := p.b) (o := p.s + o) (w := w) hc
          (fun n hn => by
            obtain ⟨vs, k1, k2⟩ := hR.reads P hi hp o n (by simp at hn; omega)
            exact ⟨vs, k1, k2⟩)
          (fun a ha => hR.cell hi hp (o := o) (by rw [List.getElem?_drop] at ha; simpa using ha))
        exact ⟨v, g1, by simp [Instr.loadAt, Instr.sureAddr, g2]⟩
      · simp at ha
    · simp at ha
  · simp only [Option.some.injEq] at ha; subst ha
    cases hx with | vptr hK hv =>
    rename_i B o vs
    obtain ⟨v, g1, g2⟩ := run_loadVar_of (P := P) (E := E) (B := B) (o := o) (w := w) hc
      (fun n hn => ⟨vs.take n, InK.reads hR P hK n (by rw [hv.length]; exact hn), hv.take n⟩)
      (fun a ha => by
        obtain ⟨v, k1, k2⟩ := hv.get? ha
        exact ⟨v, InK.read1 hR hK k1, k2⟩)
    exact ⟨v, g1, by simp [Instr.loadAt, Instr.sureAddr, g2]⟩
  · simp at ha

def abytes : List AV → Option (List UInt8)
  | [] => some []
  | .int .u8 n :: r => match abytes r with
    | some bs => some (UInt8.ofNat n.toNat :: bs)
    | none => none
  | _ => none

theorem abytes_sound {E : Env} : ∀ {as : List AV} {vs : List Value} {bs : List UInt8}, abytes as = some bs → VRels E as vs → ∃ ns : List Int, vs = ns.map (Value.int .u8) ∧ bs = ns.map fun n => UInt8.ofNat n.toNat
  | [], _, bs, h, hv => by cases hv; simp [abytes] at h; subst h; exact ⟨[], rfl, rfl⟩
  | a :: as, _, bs, h, hv => by
    cases hv with | cons h1 h2 =>
    unfold abytes at h
    split at h
    · rename_i h3; simp at h3
    · rename_i n r h3
      simp only [List.cons.injEq] at h3
      obtain ⟨rfl, rfl⟩ := h3
      split at h
      · rename_i bs' hb
        simp only [Option.some.injEq] at h; subst h
        cases h1
        obtain ⟨ns, e1, e2⟩ := abytes_sound hb h2
        exact ⟨n :: ns, by rw [e1]; rfl, by rw [e2]; rfl⟩
      · simp at h
    · simp at h

theorem foldl_push : ∀ (ns : List Int) (b : List UInt8), (ns.foldl (fun r n => r.push (UInt8.ofNat n.toNat)) (ByteArray.mk b.toArray)) = ByteArray.mk (b ++ ns.map fun n => UInt8.ofNat n.toNat).toArray
  | [], b => by simp
  | n :: ns, b => by
    simp only [List.foldl_cons, List.map_cons]
    have : (ByteArray.mk b.toArray).push (UInt8.ofNat n.toNat) = ByteArray.mk (b ++ [UInt8.ofNat n.toNat]).toArray := by
      simp [ByteArray.push]
    rw [this, foldl_push ns]
    simp

/-- The cells that a slice's first n elements, or a string's first n bytes, are. -/
def afirst (get : Nat → Option AObj) (z n : Nat) : AV → Option (List AV)
  | .nilsl => if n = 0 then some [] else none
  | .sl i o _ _ _ _ => match get i with
    | some (.cells cs) => if o + n * z ≤ cs.length then some ((cs.drop o).take (n * z)) else none
    | none => none
  | .vsl cs _ => if n * z ≤ cs.length then some (cs.take (n * z)) else none
  | .str s => if n = s.length then some (s.map fun b => .int .u8 b.toNat) else none
  | _ => none

theorem VRels.bytes {E : Env} : ∀ (s : List UInt8), VRels E (s.map fun b => .int .u8 b.toNat) (s.map fun b => Value.int .u8 b.toNat)
  | [] => .nil
  | _ :: s => .cons (.int _ _) (VRels.bytes s)

theorem Rel.heapEq {E : Env} {H : AHeap} {w w' : World} (hR : Rel E H w) (hw : w'.heap = w.heap) : Rel { E with os := w'.os, out := w'.output } H w' :=
  ⟨rfl, rfl, fun B o hb => by rw [hw]; exact hR.K B o hb, fun B o hb => by rw [hw]; exact hR.F B o hb, hR.KF, hR.dom, fun i x hi => by
    obtain ⟨p, ob, g1, g2, g3, g4, g5⟩ := hR.live i x hi
    exact ⟨p, ob, g1, g2, g3, by rw [hw]; exact g4, ORel.mono (E := E) (E' := { E with os := w'.os, out := w'.output }) ⟨fun _ _ h => h, fun _ _ h => h⟩ g5⟩, hR.inj⟩

/-- The cells of a live block, read in whatever world has that heap. -/
theorem Rel.readsAt {E : Env} {H : AHeap} {w : World} (h : Rel E H w) (P : Program) {i : Nat} {cs : List AV} (hi : H.get i = some (.cells cs)) {p : Place} (hp : E.φ i = some p) (o n : Nat) (hl : o + n ≤ cs.length) :
    ∃ vs, (∀ w' : World, w'.heap = w.heap → (loadCells ⟨p.b, p.s + o, none⟩ n).run P w' = .ok vs.toArray w') ∧ VRels E ((cs.drop o).take n) vs := by
  obtain ⟨c, e, fz, us, h1, h2, h3, h4, _⟩ := h.cellsOf hi hp
  have hul := h3.length
  refine ⟨(us.drop o).take n, fun w' hw => ?_, (h3.drop o).take n⟩
  have hlen : ((us.drop o).take n).length = n := by simp; omega
  have h1' : w'.heap[p.b]? = some (.cells c e fz) := by rw [hw]; exact h1
  have := run_loadCells_list (P := P) w' ⟨p.b, p.s + o, none⟩ ((us.drop o).take n) (fun j v hj => by
    rw [Addr.add_mk, cell?_of h1']
    have hjn : j < n := by
      rcases Nat.lt_or_ge j n with q | q
      · exact q
      · rw [List.getElem?_take_eq_none q] at hj; simp at hj
    rw [List.getElem?_take_of_lt hjn, List.getElem?_drop] at hj
    have := prefix_get? h4 hj
    rw [List.getElem?_drop] at this
    rw [show p.s + o + j = p.s + (o + j) by omega]
    simpa using this)
  rw [hlen] at this
  exact this

theorem afirst_sound {P : Program} {E : Env} {H : AHeap} {w : World} (hR : Rel E H w) {z n : Nat} {x : AV} {cs : List AV} {u : Value} (h : afirst H.get z n x = some cs) (hx : VRel E x u) :
    ∃ vs, VRels E cs vs ∧ (∀ w', w'.heap = w.heap → (Builtin.firstCells z n u).run P w' = .ok vs.toArray w') ∧ (∀ a l c, u = .slice (some a) l c → ∀ w', w'.heap = w.heap → (loadCells a (n * z)).run P w' = .ok vs.toArray w') := by
  unfold afirst at h
  split at h
  · split at h
    · rename_i hn
      simp only [Option.some.injEq] at h; subst h; subst hn
      cases hx
      exact ⟨[], .nil, fun w' _ => by simp [Builtin.firstCells], fun a l c e => by simp at e⟩
    · simp at h
  · rename_i i o z' len cap opn
    split at h
    · rename_i cs0 hi
      split at h
      · rename_i hl
        simp only [Option.some.injEq] at h; subst h
        cases hx with | sl hp hlen hcap hopn hroom =>
        rename_i c' p
        obtain ⟨vs, g1, g2⟩ := hR.readsAt P hi hp o (n * z) hl
        refine ⟨vs, g2, fun w' hw => ?_, fun a l c e w' hw => ?_⟩
        · simp only [Builtin.firstCells]; exact g1 w' hw
        · simp only [Value.slice.injEq, Option.some.injEq] at e; rw [← e.1]; exact g1 w' hw
      · simp at h
    · simp at h
  · rename_i cs0 len
    split at h
    · rename_i hl
      simp only [Option.some.injEq] at h; subst h
      cases hx with
      | vsl0 =>
        rename_i a0
        have h0 : n * z = 0 := by simpa using hl
        have g1' : ∀ w' : World, (loadCells a0 (n * z)).run P w' = .ok #[] w' := fun w' => by rw [h0]; rfl
        refine ⟨[], by simpa using VRels.nil, fun w' hw => ?_, fun a l c e w' hw => ?_⟩
        · simp only [Builtin.firstCells]; exact g1' w'
        · simp only [Value.slice.injEq, Option.some.injEq] at e; rw [← e.1]; exact g1' w'
      | vsl hK hv hlen =>
      rename_i B o c' us
      have g1' : ∀ w', w'.heap = w.heap → (loadCells ⟨B, o, none⟩ (n * z)).run P w' = .ok (us.take (n * z)).toArray w' := fun w' hw =>
        InK.reads (hR.heapEq hw) P (InK.mono (E := E) (E' := { E with os := w'.os, out := w'.output }) ⟨fun _ _ h => h, fun _ _ h => h⟩ hK) (n * z) (by rw [hv.length]; exact hl)
      refine ⟨us.take (n * z), hv.take _, fun w' hw => ?_, fun a l c e w' hw => ?_⟩
      · simp only [Builtin.firstCells]; exact g1' w' hw
      · simp only [Value.slice.injEq, Option.some.injEq] at e; rw [← e.1]; exact g1' w' hw
    · simp at h
  · rename_i s
    split at h
    · rename_i hn
      simp only [Option.some.injEq] at h; subst h; subst hn
      cases hx
      refine ⟨s.map fun b => Value.int .u8 b.toNat, VRels.bytes s, fun w' _ => ?_, fun a l c e => by simp at e⟩
      have : (ByteArray.mk s.toArray).extract 0 s.length = ByteArray.mk s.toArray := by
        rw [ByteArray.extract_mk]; simp
      simp [Builtin.firstCells, this]
    · simp at h
  · simp at h

def alenOf : AV → Option Nat
  | .nilsl => some 0
  | .sl _ _ _ n _ _ => some n
  | .vsl _ n => some n
  | .str s => some s.length
  | _ => none

theorem alenOf_sound {P : Program} {E : Env} {x : AV} {n : Nat} {u : Value} (h : alenOf x = some n) (hx : VRel E x u) (w : World) : (Builtin.lenOf u).run P w = .ok n w := by
  unfold alenOf at h
  split at h <;> first
    | (simp at h; done)
    | (simp only [Option.some.injEq] at h; subst h; cases hx; simp [Builtin.lenOf]; try rfl)

def aread (P : Program) (ρ : Operand → Option AV) (get : Nat → Option AObj) (o : Oper) : Option AV :=
  match o.op with
  | .load t x => match ρ x with
    | some a => match aat get a with
      | some cs => acut P t cs
      | none => none
    | none => none
  | .convert s d x => match P.underlying s, P.underlying d with
    | some (.slice e), some .string => match P.underlying e, ρ x with
      | some (.int .u8), some a => match a with
        | .nilsl => some (.str [])
        | .sl i o z len cap opn => match afirst get 1 len (.sl i o z len cap opn) with
          | some cs => (abytes cs).map .str
          | none => none
        | .vsl cs len => match afirst get 1 len (.vsl cs len) with
          | some cs => (abytes cs).map .str
          | none => none
        | _ => none
      | _, _ => none
    | _, _ => none
  | _ => none

/-- What an operation that only reads gives. -/
def Reads (P : Program) (E : Env) (σ : Operand → Value) (o : Oper) (r : AV) (w : World) : Prop := ∃ v, VRel E r v ∧ (execOp σ o).run P w = .ok (.value v) w

theorem bytesToString_sound {P : Program} {E : Env} {H : AHeap} {w : World} (hR : Rel E H w) {x : AV} {len : Nat} {cs : List AV} {bs : List UInt8} {u : Value} {a : Addr} {c : Nat}
    (h : afirst H.get 1 len x = some cs) (hb : abytes cs = some bs) (hx : VRel E x u) (hu : u = .slice (some a) len c) : (Conv.bytesToString u).run P w = .ok (.string ⟨bs.toArray⟩) w := by
  obtain ⟨vs, g1, g2, g3⟩ := afirst_sound (P := P) hR h hx
  obtain ⟨ns, e1, e2⟩ := abytes_sound hb g1
  have := g3 a len c hu w rfl
  rw [Nat.mul_one, e1] at this
  subst hu
  rw [run_bytesToString w a len c ns this]
  have e0 : ByteArray.empty = ByteArray.mk ([] : List UInt8).toArray := rfl
  rw [e0, foldl_push, List.nil_append, e2]

theorem aread_sound {P : Program} {E : Env} {ρ : Operand → Option AV} {σ : Operand → Value} {o : Oper} {r : AV} {H : AHeap} {w : World} (hR : Rel E H w) (hr : Operands E ρ σ o.op.operands.toList) (h : aread P ρ H.get o = some r) : Reads P E σ o r w := by
  obtain ⟨dst, op, ty, pos, after, guard⟩ := o
  cases op <;> simp only [aread] at h <;> simp only [Op.operands] at hr <;> try (simp at h; done)
  case load t x =>
    split at h <;> try (simp at h; done)
    rename_i a ha
    split at h <;> try (simp at h; done)
    rename_i cs hcs
    obtain ⟨v, h1, h2⟩ := aat_load hR hcs h (hr x (by simp) _ ha)
    exact ⟨v, h1, by simp [execOp, h2]⟩
  case convert s d x =>
    split at h <;> try (simp at h; done)
    rename_i e hs hd
    split at h <;> try (simp at h; done)
    rename_i a he ha
    have hx := hr x (by simp) _ ha
    split at h <;> try (simp at h; done)
    · simp only [Option.some.injEq] at h; subst h
      refine ⟨.string ⟨#[]⟩, .str [], ?_⟩
      simp only [execOp]
      generalize σ x = u at hx
      cases hx
      have := run_convert_bytes_string (P := P) w s d e none 0 0 hs he hd
      simp only [Sem.run_bind, this]
      simp [Conv.bytesToString]; rfl
    · split at h <;> try (simp at h; done)
      rename_i cs hcs
      simp only [Option.map_eq_some_iff] at h
      obtain ⟨bs, hb, rfl⟩ := h
      refine ⟨_, .str bs, ?_⟩
      simp only [execOp]
      generalize σ x = u at hx
      have hx' := hx
      cases hx with | sl hp =>
      have := bytesToString_sound (P := P) hR hcs hb hx' rfl
      simp only [Sem.run_bind, run_convert_bytes_string (P := P) w s d e _ _ _ hs he hd, this, Result.andThen_ok, Sem.run_pure]
    · split at h <;> try (simp at h; done)
      rename_i cs hcs
      simp only [Option.map_eq_some_iff] at h
      obtain ⟨bs, hb, rfl⟩ := h
      refine ⟨_, .str bs, ?_⟩
      simp only [execOp]
      generalize σ x = u at hx
      have hx' := hx
      cases hx with
      | vsl hK hv hl =>
        have := bytesToString_sound (P := P) hR hcs hb hx' rfl
        simp only [Sem.run_bind, run_convert_bytes_string (P := P) w s d e _ _ _ hs he hd, this, Result.andThen_ok, Sem.run_pure]
      | vsl0 =>
        have := bytesToString_sound (P := P) hR hcs hb hx' rfl
        simp only [Sem.run_bind, run_convert_bytes_string (P := P) w s d e _ _ _ hs he hd, this, Result.andThen_ok, Sem.run_pure]

end Go.Abs
