/-
  A simplified meaning for Go code, eleventh part: what writes, as functions of the abstract heap.
-/
import Derived.Test.YtcbiaeoladjecaaAbsJ
namespace Go.Abs
open Go

def aappend (P : Program) (t u : TypeId) (get : Nat → Option AObj) (next : Nat) (s x : AV) : Option (AV × AEff) :=
  match P.underlying t, P.underlying u with
  | some (.slice e), some du => if isSeq du then
    match P.info? e, azero P e, alenOf x with
    | some info, some z, some n => if z.cells.length = info.size then
      match afirst get info.size n x with
      | some news => if news.all AV.scalar = true ∧ news.length = n * info.size then
        match s with
        | .nilsl => if n = 0 then some (.nilsl, .same)
          else if n * info.bytes ≤ 140737488355328 ∧ n ≤ 4611686018427387904 then some (.sl next 0 info.size n n true, .new (.cells news)) else none
        | .vsl cs len => if n = 0 then some (.vsl cs len, .same) else none
        | .sl i o zz len cap opn => if zz = info.size then
          match get i with
          | some (.cells cs) =>
            if len + n ≤ cap then
              if o + (len + n) * zz ≤ cs.length then some (.sl i o zz (len + n) cap opn, .put i (.cells (splice cs (o + len * zz) news))) else none
            else if o + len * zz ≤ cs.length ∧ (len + n) * info.bytes ≤ 140737488355328 ∧ len + n ≤ 4611686018427387904 then
              if opn then some (.sl next 0 zz (len + n) (len + n) true, .move i (.cells ((cs.drop o).take (len * zz) ++ news)))
              else some (.sl next 0 zz (len + n) (len + n) true, .new (.cells ((cs.drop o).take (len * zz) ++ news)))
            else none
          | none => none
          else none
        | _ => none
        else none
      | none => none
      else none
    | _, _, _ => none
    else none
  | _, _ => none

theorem afirst_length {get : Nat → Option AObj} {z n : Nat} {x : AV} {cs : List AV} (h : afirst get z n x = some cs) (hz : ∀ s, x = .str s → z = 1) : cs.length = n * z := by
  unfold afirst at h
  split at h
  · split at h
    · rename_i hn; simp only [Option.some.injEq] at h; subst h; subst hn; simp
    · simp at h
  · split at h
    · split at h
      · simp only [Option.some.injEq] at h; subst h; simp; omega
      · simp at h
    · simp at h
  · split at h
    · simp only [Option.some.injEq] at h; subst h; simp; omega
    · simp at h
  · rename_i s
    split at h
    · rename_i hn; simp only [Option.some.injEq] at h; subst h; rw [hz s rfl]; simp [hn]
    · simp at h
  · simp at h

theorem grown {E : Env} {H : AHeap} {w : World} (hR : Rel E H w) {as : List AV} {vs tail : List Value} {C : Array Value} {e : TypeId} {m c' z : Nat} (f : VRels E as vs) (hl : as.length = m * z) (hc : m ≤ c')
    (hC : C.toList = vs ++ tail) (ht : tail.length = (c' - m) * z) :
    ∃ E', Ext E E' ∧ Rel E' (H.push (.cells as)) (w.drew.alloc (.cells C e)) ∧ VRel E' (.sl H.next 0 z m m true) (.slice (some ⟨w.heap.size, 0, none⟩) m c') := by
  have hvl := f.length
  have hsz : C.size = c' * z := by
    rw [← Array.length_toList, hC, List.length_append, ht, hvl, hl, ← Nat.add_mul]
    congr 1; omega
  refine ⟨E.put H.next ⟨w.heap.size, 0, C.size⟩, Env.put_ext hR.fresh, hR.drew.push (w' := w.drew.alloc (.cells C e)) (c := C) (e := e) (fz := (0, 0)) rfl rfl rfl f (by rw [hC]; exact List.prefix_append _ _) (.inl rfl), ?_⟩
  have := VRel.sl (E := E.put H.next ⟨w.heap.size, 0, C.size⟩) (i := H.next) (o := 0) (z := z) (len := m) (cap := m) (c' := c') (opn := true) (p := ⟨w.heap.size, 0, C.size⟩) (by simp [Env.put]) (Nat.le_refl _) hc (fun h => by simp at h) (by simp [hsz])
  simpa using this

theorem zeroCells_length (z : Array Value) (n : Nat) : (Builtin.zeroCells z n).toList.length = n * z.size := by simp [Builtin.zeroCells]

theorem aappend_sound {P : Program} {E : Env} {H : AHeap} {w : World} (hR : Rel E H w) {t u ty : TypeId} {s x r : AV} {eff : AEff} {us ux : Value}
    (h : aappend P t u H.get H.next s x = some (r, eff)) (hs : VRel E s us) (hx : VRel E x ux) :
    ∃ E' v w', Ext E E' ∧ VRel E' r v ∧ Rel E' (H.eff eff) w' ∧ (Builtin.append_ #[t, u] ty #[us, ux]).run P w = .ok v w' := by
  unfold aappend at h
  split at h <;> try (simp at h; done)
  rename_i e du ht hu
  split at h <;> try (simp at h; done)
  rename_i hd
  split at h <;> try (simp at h; done)
  rename_i info z n hi hz hn
  split at h <;> try (simp at h; done)
  rename_i hzc
  split at h <;> try (simp at h; done)
  rename_i news hnews
  split at h <;> try (simp at h; done)
  rename_i hsc
  obtain ⟨hsc, hnl⟩ := hsc
  obtain ⟨vs, f1, f2, f3⟩ := afirst_sound (P := P) hR hnews hx
  have hlen := alenOf_sound (P := P) hn hx w
  unfold azero at hz
  rw [hi] at hz
  simp only at hz
  split at hz <;> try (simp at hz; done)
  rename_i zv hzv
  have hzr := ofConst_rel E hz
  have hzl := hzr.cells.length
  rw [hzc] at hzl
  simp only [Array.length_toList] at hzl
  have hfl : vs.length = news.length := f1.length
  split at h <;> try (simp at h; done)
  · -- nil
    cases hs
    split at h
    · rename_i hn0
      subst hn0
      simp only [Option.some.injEq, Prod.mk.injEq] at h; obtain ⟨rfl, rfl⟩ := h
      exact ⟨E, _, w, Ext.refl E, .nilsl, hR, run_append_none w ht hu hd hi ux vs (f2 w rfl) hlen⟩
    · rename_i hn0
      split at h <;> try (simp at h; done)
      rename_i hb
      simp only [Option.some.injEq, Prod.mk.injEq] at h; obtain ⟨rfl, rfl⟩ := h
      have hrun := run_append_grow' (P := P) w (ty := ty) ht hu hd hi hzv none 0 0 ux n [] vs (fun w' _ => by simp [Builtin.firstCells]) f2 hlen (by omega) (by omega)
        (growslice_fits (by omega) (by rw [Nat.zero_add]; exact hb.1))
      simp only [Nat.zero_add] at hrun
      obtain ⟨E', g1, g2, g3⟩ := grown hR (e := e) (c' := grownCap w n 0 e) (C := #[] ++ vs.toArray ++ Builtin.zeroCells zv.cells (grownCap w n 0 e - n)) (tail := (Builtin.zeroCells zv.cells (grownCap w n 0 e - n)).toList) f1 hnl (Nat.le_add_right _ _)
        (by simp) (by rw [zeroCells_length, hzl])
      exact ⟨E', _, _, g1, g3, g2, hrun⟩
  · -- frozen
    split at h <;> try (simp at h; done)
    rename_i hn0
    subst hn0
    simp only [Option.some.injEq, Prod.mk.injEq] at h; obtain ⟨rfl, rfl⟩ := h
    have hs' := hs
    have hvs : vs = [] := by
      have : vs.length = 0 := by rw [hfl, hnl]; simp
      exact List.eq_nil_of_length_eq_zero this
    subst hvs
    cases hs with
    | vsl hK hv hl => exact ⟨E, _, w, Ext.refl E, hs', hR, run_append_stay w w ht hu hd hi _ _ _ ux 0 [] (f2 w rfl) hlen hl (by simp [storeCells])⟩
    | vsl0 => exact ⟨E, _, w, Ext.refl E, hs', hR, run_append_stay w w ht hu hd hi _ _ _ ux 0 [] (f2 w rfl) hlen (Nat.le_refl 0) (by simp [storeCells])⟩
  · rename_i i o zz len cap opn
    split at h <;> try (simp at h; done)
    rename_i hzz
    subst hzz
    split at h <;> try (simp at h; done)
    rename_i cs hget
    have hs' := hs
    cases hs with | sl hp hl1 hc1 ho1 hroom =>
    rename_i c' p
    have hone := all_oneCell f1 hsc
    have hsrc : ∀ w' : World, w'.heap = w.heap → o + len * info.size ≤ cs.length → ∃ os, (Builtin.firstCells info.size len (.slice (some ⟨p.b, p.s + o, none⟩) len c')).run P w' = .ok os w' := fun w' hw hle => by
      obtain ⟨us, k1, _⟩ := hR.readsAt P hget hp o (len * info.size) hle
      exact ⟨_, by simp only [Builtin.firstCells]; exact k1 w' hw⟩
    split at h
    · -- in place, and it is known
      rename_i hfit
      split at h <;> try (simp at h; done)
      rename_i hin
      simp only [Option.some.injEq, Prod.mk.injEq] at h; obtain ⟨rfl, rfl⟩ := h
      have hle : o + len * info.size + news.length ≤ cs.length := by rw [hnl, Nat.add_assoc, ← Nat.add_mul]; exact hin
      obtain ⟨w', g1, g2⟩ := Rel.writes P i hp news vs cs H w (o + len * info.size) 0 hR hget f1 (fun a ha => List.all_eq_true.1 hsc a ha) (by omega)
      rw [Nat.add_zero] at g2
      refine ⟨E, _, w', Ext.refl E, .sl hp (by omega) hc1 ho1 hroom, g2, ?_⟩
      refine run_append_stay w w' ht hu hd hi _ _ _ ux n vs (f2 w rfl) hlen (by omega) ?_
      rw [Addr.add_mk, Nat.add_assoc]
      exact g1
    · rename_i hnofit
      split at h <;> try (simp at h; done)
      rename_i hb
      obtain ⟨hb1, hb2, hb3⟩ := hb
      obtain ⟨us, k1, k2⟩ := hR.readsAt P hget hp o (len * info.size) hb1
      have hall : VRels E ((cs.drop o).take (len * info.size) ++ news) (us ++ vs) := k2.append f1
      have hlen2 : ((cs.drop o).take (len * info.size) ++ news).length = (len + n) * info.size := by
        simp only [List.length_append, List.length_take, List.length_drop, hnl, Nat.add_mul]; omega
      -- where it must grow
      have grow : c' < len + n → ∀ H' : AHeap, Rel E H' w → H'.next = H.next → ∃ E' v w', Ext E E' ∧ VRel E' (.sl H.next 0 info.size (len + n) (len + n) true) v ∧ Rel E' (H'.push (.cells ((cs.drop o).take (len * info.size) ++ news))) w' ∧
          (Builtin.append_ #[t, u] ty #[.slice (some ⟨p.b, p.s + o, none⟩) len c', ux]).run P w = .ok v w' := fun hgr H' hR' hnx => by
        have hrun := run_append_grow' (P := P) w (ty := ty) ht hu hd hi hzv (some ⟨p.b, p.s + o, none⟩) len c' ux n us vs (fun w' hw => by simp only [Builtin.firstCells]; exact k1 w' hw) f2 hlen hgr (by omega)
          (growslice_fits hgr hb2)
        obtain ⟨E', g1, g2, g3⟩ := grown hR' (e := e) (c' := grownCap w (len + n) c' e) (C := us.toArray ++ vs.toArray ++ Builtin.zeroCells zv.cells (grownCap w (len + n) c' e - (len + n))) (tail := (Builtin.zeroCells zv.cells (grownCap w (len + n) c' e - (len + n))).toList) hall hlen2 (Nat.le_add_right _ _)
          (by simp) (by rw [zeroCells_length, hzl])
        rw [hnx] at g3
        exact ⟨E', _, _, g1, g3, g2, hrun⟩
      split at h
      · -- nobody knows whether it grows
        simp only [Option.some.injEq, Prod.mk.injEq] at h; obtain ⟨rfl, rfl⟩ := h
        by_cases hgr : c' < len + n
        · exact grow hgr (H.kill i) (hR.kill i) rfl
        · obtain ⟨c, e0, fz, vs0, q1, q2, q3, q4, q5, q6, q7⟩ := hR.cellsOf hget hp
          have hle2 : p.s + o + len * info.size + vs.length ≤ c.size := by
            rw [q2, hfl, hnl]
            have : (len + n) * info.size ≤ c' * info.size := Nat.mul_le_mul_right _ (by omega)
            rw [Nat.add_mul] at this
            omega
          obtain ⟨w', c2, g1, g2, g3, g4, g5, g6⟩ := raw_stores P p.b e0 fz (p.s + o + len * info.size) vs 0 c w q1 (by omega) (fun x hx1 hx2 => q5.out x (by omega)) hone
          have hc2 : c2.size = p.n := by
            rw [← Array.length_toList, g3]
            simp only [List.length_append, List.length_take, List.length_drop, Array.length_toList]
            omega
          -- what the old cells are
          obtain ⟨us', k1', _⟩ := hR.readsAt P hget hp o (len * info.size) hb1
          have husl : us.length = len * info.size := by have := k2.length; simp at this; omega
          have hus : us = ((vs0.drop o).take (len * info.size)) := by
            have hul := q3.length
            have hl3 : ((vs0.drop o).take (len * info.size)).length = len * info.size := by simp; omega
            have := run_loadCells_list (P := P) w ⟨p.b, p.s + o, none⟩ ((vs0.drop o).take (len * info.size)) (fun j v hj => by
              rw [Addr.add_mk, cell?_of q1]
              have hjn : j < len * info.size := by
                rcases Nat.lt_or_ge j (len * info.size) with q | q
                · exact q
                · rw [List.getElem?_take_eq_none q] at hj; simp at hj
              rw [List.getElem?_take_of_lt hjn, List.getElem?_drop] at hj
              have := prefix_get? q4 hj
              rw [List.getElem?_drop] at this
              rw [show p.s + o + j = p.s + (o + j) by omega]
              simpa using this)
            rw [hl3, k1 w rfl] at this
            simpa using this
          have hpre : us ++ vs <+: c2.toList.drop (p.s + o) := by
            rw [g3, Nat.add_zero]
            have hcl : c.toList.length = c.size := Array.length_toList
            rw [List.drop_append_of_le_length (by rw [List.length_take, hcl]; omega)]
            have e1 : (c.toList.take (p.s + o + len * info.size)).drop (p.s + o) = us := by
              rw [List.drop_take, Nat.add_sub_cancel_left, hus]
              have hq := prefix_take_drop q4 o
              rw [List.drop_drop] at hq
              obtain ⟨tl, htl⟩ := hq
              rw [← htl, List.take_append_of_le_length]
              have hul := q3.length
              simp; omega
            rw [e1, ← List.append_assoc]
            exact List.prefix_append _ _
          have hto := hR.takeOver hget hp (o := o) g2 hc2 q5 hall hpre g4 g5 g6
          refine ⟨_, _, w', Env.put_ext hR.fresh, ?_, hto, run_append_stay w w' ht hu hd hi _ _ _ ux n vs (f2 w rfl) hlen (by omega) (by rw [Addr.add_mk]; exact g1)⟩
          have := VRel.sl (E := E.put H.next ⟨p.b, p.s + o, p.n⟩) (i := H.next) (o := 0) (z := info.size) (len := len + n) (cap := len + n) (c' := c') (opn := true) (p := ⟨p.b, p.s + o, p.n⟩) (by simp [Env.put]) (Nat.le_refl _) (by omega) (fun h => by simp at h) (by simpa using hroom)
          simpa using this
      · -- it is known that it grows
        rename_i hop
        simp only [Option.some.injEq, Prod.mk.injEq] at h; obtain ⟨rfl, rfl⟩ := h
        have := ho1 (by simpa using hop)
        exact grow (by omega) H hR rfl

end Go.Abs
