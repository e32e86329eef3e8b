/-
  Data that came in, as abstract values: bools, whole numbers, strings, structs, slices of them.
-/
import Derived.Test.YtcbiaeoladjecaaAbsU
import Derived.ChangeArms
import Derived.DataReads
namespace Go.Abs
open Go Go.ChangeShapes

/-- Fields that lie one behind the other. -/
def consec (P : Program) : List Field → Nat → Option Nat
  | [], o => some o
  | f :: r, o => if f.offset = o then consec P r (o + P.cellsOf f.type) else none

/-- A type of plain data. -/
def plainTy (P : Program) : Nat → TypeId → Bool
  | 0, _ => false
  | n + 1, t => match P.underlying t with
    | some .bool => P.cellsOf t == 1
    | some (.int _) => P.cellsOf t == 1
    | some .string => P.cellsOf t == 1
    | some (.slice e) => P.cellsOf t == 1 && decide (0 < P.cellsOf e) && plainTy P n e
    | some (.struct fs) => (consec P fs.toList 0 == some (P.cellsOf t)) && fs.toList.all fun f => plainTy P n f.type
    | _ => false

/-- What the cells of a value of that type look like. -/
def Shp (P : Program) : Nat → TypeId → List AV → Prop
  | 0, _, _ => False
  | n + 1, t, as => match P.underlying t with
    | some .bool => ∃ b, as = [.bool b]
    | some (.int k) => ∃ m, as = [.int k m] ∧ (Lit.int k m).wf = true
    | some .string => ∃ s, as = [.str s] ∧ s.length ≤ maxLen
    | some (.slice e) => as = [.nilsl] ∨ ∃ es : List (List AV), as = [.vsl es.flatten es.length] ∧ es.length ≤ maxLen ∧ ∀ x ∈ es, Shp P n e x
    | some (.struct fs) => ∃ xs : List (List AV), as = xs.flatten ∧ xs.length = fs.toList.length ∧ ∀ (i : Nat) (f : Field) (x : List AV), fs.toList[i]? = some f → xs[i]? = some x → Shp P n f.type x
    | _ => False

theorem Shp.length {P : Program} : ∀ {n : Nat} {t : TypeId} {as : List AV}, plainTy P n t = true → Shp P n t as → as.length = P.cellsOf t
  | 0, _, _, h, _ => by simp [plainTy] at h
  | n + 1, t, as, h, hs => by
    unfold plainTy at h
    unfold Shp at hs
    split at h
    · rename_i hu; rw [hu] at hs; obtain ⟨b, rfl⟩ := hs; simp at h; simp [h]
    · rename_i hu; rw [hu] at hs; obtain ⟨m, rfl, _⟩ := hs; simp at h; simp [h]
    · rename_i hu; rw [hu] at hs; obtain ⟨m, rfl, _⟩ := hs; simp at h; simp [h]
    · rename_i hu; rw [hu] at hs
      simp only [Bool.and_eq_true, beq_iff_eq] at h
      rcases hs with rfl | ⟨es, rfl, _⟩ <;> simp [h.1.1]
    · rename_i fs hu
      rw [hu] at hs
      simp only [Bool.and_eq_true, beq_iff_eq] at h
      obtain ⟨xs, rfl, hl, hx⟩ := hs
      have key : ∀ (l : List Field) (xs : List (List AV)) (o e : Nat), xs.length = l.length → (∀ (i : Nat) (f : Field) (x : List AV), l[i]? = some f → xs[i]? = some x → x.length = P.cellsOf f.type) → consec P l o = some e → o + xs.flatten.length = e := by
        intro l
        induction l with
        | nil => intro xs o e hxl _ hc; simp at hxl; subst hxl; simpa [consec] using hc
        | cons f l ih =>
          intro xs o e hxl hx hc
          cases xs with
          | nil => simp at hxl
          | cons x xs =>
            simp only [consec] at hc
            split at hc <;> try (simp at hc; done)
            have := ih xs _ _ (by simpa using hxl) (fun i f x hf hx' => hx (i + 1) f x (by simpa using hf) (by simpa using hx')) hc
            have h0 := hx 0 f x rfl rfl
            simp only [List.flatten_cons, List.length_append]
            omega
      have := key fs.toList xs 0 _ hl (fun i f x hf hx' => by
        have h2 := h.2
        rw [List.all_eq_true] at h2
        exact Shp.length (h2 f (List.mem_of_getElem? hf)) (hx i f x hf hx')) h.1
      omega
    · simp at h

theorem VRels.blocks {E : Env} {z : Nat} : ∀ (es : List (List AV)) (L : List Value), (∀ (i : Nat) (x : List AV), es[i]? = some x → VRels E x ((L.drop (i * z)).take z)) → VRels E es.flatten (L.take (es.length * z))
  | [], L, _ => by simpa using VRels.nil
  | x :: es, L, h => by
    have h0 := h 0 x rfl
    simp only [Nat.zero_mul, List.drop_zero] at h0
    have ih := VRels.blocks (z := z) es (L.drop z) fun i y hy => by
      have := h (i + 1) y (by simpa using hy)
      rw [List.drop_drop]
      have e : z + i * z = (i + 1) * z := by rw [Nat.add_mul]; omega
      rw [e]; exact this
    have e : L.take ((x :: es).length * z) = L.take z ++ (L.drop z).take (es.length * z) := by
      rw [← List.take_add]
      congr 1
      simp only [List.length_cons, Nat.add_mul]; omega
    rw [e, List.flatten_cons]
    exact h0.append ih

theorem consec_le {P : Program} : ∀ {l : List Field} {o e : Nat}, consec P l o = some e → o ≤ e
  | [], o, e, h => by simp [consec] at h; omega
  | f :: l, o, e, h => by
    simp only [consec] at h
    split at h <;> try (simp at h; done)
    have := consec_le h
    omega
theorem VRels.fields {P : Program} {E : Env} {cs : List Value} : ∀ (l : List Field) (xs : List (List AV)) (o e : Nat), consec P l o = some e → xs.length = l.length → (∀ (i : Nat) (f : Field) (x : List AV), l[i]? = some f → xs[i]? = some x → VRels E x ((cs.drop f.offset).take (P.cellsOf f.type))) → VRels E xs.flatten ((cs.drop o).take (e - o))
  | [], xs, o, e, hc, hl, _ => by
    simp at hl; subst hl
    simp [consec] at hc; subst hc
    simpa using VRels.nil
  | f :: l, [], o, e, _, hl, _ => by simp at hl
  | f :: l, x :: xs, o, e, hc, hl, h => by
    simp only [consec] at hc
    split at hc <;> try (simp at hc; done)
    rename_i ho
    have hle := consec_le hc
    have h0 := h 0 f x rfl rfl
    rw [ho] at h0
    have ih := VRels.fields l xs _ e hc (by simpa using hl) fun i f x hf hx => h (i + 1) f x (by simpa using hf) (by simpa using hx)
    have e1 : (cs.drop o).take (e - o) = (cs.drop o).take (P.cellsOf f.type) ++ (cs.drop (o + P.cellsOf f.type)).take (e - (o + P.cellsOf f.type)) := by
      rw [← List.drop_drop, ← List.take_add]
      congr 1; omega
    rw [e1, List.flatten_cons]
    exact h0.append ih

theorem exists_list {α : Type} {n : Nat} {Q : Nat → α → Prop} (h : ∀ i, i < n → ∃ y, Q i y) : ∃ l : List α, l.length = n ∧ ∀ (i : Nat) (x : α), l[i]? = some x → Q i x := by
  induction n with
  | zero => exact ⟨[], rfl, fun i x h => by simp at h⟩
  | succ n ih =>
    obtain ⟨l, h1, h2⟩ := ih fun i hi => h i (by omega)
    obtain ⟨y, hy⟩ := h n (by omega)
    refine ⟨l ++ [y], by simp [h1], fun i x hx => ?_⟩
    rcases Nat.lt_or_ge i l.length with g | g
    · rw [List.getElem?_append_left g] at hx; exact h2 i x hx
    · rw [List.getElem?_append_right g] at hx
      have : i - l.length = 0 := by
        rcases Nat.eq_zero_or_pos (i - l.length) with e | e
        · exact e
        · rw [List.getElem?_eq_none (by simp; omega)] at hx; simp at hx
      have hin : i = n := by omega
      rw [this] at hx
      simp at hx; subst hx
      rw [hin]; exact hy

section
variable {H : Type} {enc : TypeId × Value → H} {P : Program} {w : World} {base : Nat} {held : Bool}

theorem open_plain : ∀ {n : Nat} {t : TypeId} {fuel : Nat} {cs : List Value} {x : DataW H × List MemPlace}, plainTy P n t = true → DataW.trod enc P w base (fun _ => true) held fuel t cs = some x → ∃ as, VRels (Env.start w) as cs ∧ Shp P n t as
  | 0, _, _, _, _, h, _ => by simp [plainTy] at h
  | n + 1, t, fuel, cs, x, h, hx => by
    have h0 := h
    unfold plainTy at h
    split at h <;> rename_i hu
    · obtain ⟨b, rfl, _⟩ := DataW.trod_bool hu hx
      exact ⟨[.bool b], .cons (.bool b) .nil, by unfold Shp; rw [hu]; exact ⟨b, rfl⟩⟩
    · obtain ⟨m, rfl, _, hwf⟩ := DataW.trod_int hu hx
      exact ⟨[.int _ m], .cons (.int _ m) .nil, by unfold Shp; rw [hu]; exact ⟨m, rfl, hwf⟩⟩
    · obtain ⟨s, rfl, _, hs⟩ := DataW.trod_string hu hx
      refine ⟨[.str s.data.toList], .cons ?_ .nil, by unfold Shp; rw [hu]; exact ⟨_, rfl, by simpa using hs⟩⟩
      have := VRel.str (E := Env.start w) s.data.toList
      simpa using this
    · rename_i e
      simp only [Bool.and_eq_true, beq_iff_eq, decide_eq_true_eq] at h
      obtain ⟨⟨_, hz⟩, he⟩ := h
      rcases DataW.trod_slice hu hx with ⟨rfl, _⟩ | ⟨a, len, cap, elems, rest, m, _, rfl, _, _, hl, hm, hlen, hel, hsp, _⟩
      · exact ⟨[.nilsl], .cons .nilsl .nil, by unfold Shp; rw [hu]; exact .inl rfl⟩
      · have hq : ∀ i, i < len → ∃ as : List AV, ∃ ci, w.cells? base (a.add (i * P.cellsOf e)) (P.cellsOf e) = some ci ∧ VRels (Env.start w) as ci ∧ Shp P n e as := by
          intro i hi
          have h1 := hel i hi
          rw [List.getElem?_eq_getElem (by omega)] at h1
          cases hc : w.cells? base (a.add (i * P.cellsOf e)) (P.cellsOf e) with
          | none => rw [hc] at h1; simp at h1
          | some ci =>
            rw [hc] at h1
            obtain ⟨as, h2, h3⟩ := open_plain he h1
            exact ⟨as, ci, rfl, h2, h3⟩
        obtain ⟨es, hes, hq⟩ := exists_list hq
        have hshp : Shp P (n + 1) t [.vsl es.flatten es.length] := by
          unfold Shp; rw [hu]
          refine .inr ⟨es, rfl, by omega, fun x hx => ?_⟩
          obtain ⟨i, hi⟩ := List.getElem?_of_mem hx
          obtain ⟨_, _, _, h3⟩ := hq i x hi
          exact h3
        refine ⟨_, ?_, hshp⟩
        by_cases hcap : cap = 0
        · have : len = 0 := by omega
          subst hcap; subst this
          have : es = [] := List.eq_nil_of_length_eq_zero hes
          subst this
          exact .cons .vsl0 .nil
        · -- a cell is there, so the address is a plain one
          have hspot : a.spot = none := by
            have key : ∀ ci, w.cells? base (a.add 0) (P.cellsOf e) = some ci → a.spot = none := by
              intro ci hc
              obtain ⟨_, h1, h2⟩ := World.cells?_some hc
              have h3 := h2 0 hz
              rw [List.getElem?_eq_getElem (by omega)] at h3
              have e0 : (a.add 0).add 0 = a := by simp [Addr.add]
              rw [e0] at h3
              unfold World.cell? at h3
              split at h3
              · split at h3
                · simp at h3
                · rename_i hsn; simpa using hsn
              · simp at h3
            by_cases h1 : 0 < len
            · have h2 := hel 0 h1
              rw [List.getElem?_eq_getElem (by omega), Nat.zero_mul] at h2
              cases hc : w.cells? base (a.add 0) (P.cellsOf e) with
              | none => rw [hc] at h2; simp at h2
              | some ci => exact key ci hc
            · have h2 := (hsp rfl).2 0 (by omega)
              have hr := (hsp rfl).1
              have hl0 : len = 0 := by omega
              rw [hl0] at h2
              rw [List.getElem?_eq_getElem (by omega)] at h2
              simp only [Nat.add_zero, Nat.zero_mul] at h2
              cases hc : w.cells? base (a.add 0) (P.cellsOf e) with
              | none => rw [hc] at h2; simp at h2
              | some ci => exact key ci hc
          obtain ⟨B, o, sp⟩ := a
          simp only at hspot
          subst hspot
          refine .cons ?_ .nil
          rw [hes]
          by_cases hl0 : len = 0
          · subst hl0
            have : es = [] := List.eq_nil_of_length_eq_zero hes
            subst this
            exact .vsl InK.nil .nil (Nat.zero_le _)
          · have hadd : ∀ k, (Addr.mk B o none).add k = ⟨B, o + k, none⟩ := fun k => by
              unfold Addr.add
              split
              · rename_i h; subst h; rfl
              · rfl
            -- the block
            obtain ⟨x0, hx0⟩ : ∃ x0, es[0]? = some x0 := ⟨es[0]'(by omega), List.getElem?_eq_getElem (by omega)⟩
            obtain ⟨c0, hc0, _, _⟩ := hq 0 x0 hx0
            obtain ⟨_, hcl0, hce0⟩ := World.cells?_some hc0
            have hce := hce0 0 hz
            rw [List.getElem?_eq_getElem (by omega)] at hce
            have hblk : ∃ c e f, w.heap[B]? = some (.cells c e f) := by
              rw [Nat.zero_mul, hadd] at hce
              unfold World.cell? at hce
              have e0 : (Addr.add ⟨B, o + 0, none⟩ 0).block = B := by simp [Addr.add]
              rw [e0] at hce
              split at hce
              · rename_i c e f hh; exact ⟨c, e, f, hh⟩
              · simp at hce
            obtain ⟨c, ce, cf, hh⟩ := hblk
            have hcell : ∀ k, w.cell? ⟨B, o + k, none⟩ = c[o + k]? := fun k => by
              unfold World.cell?; simp [hh]
            have hb : VRels (Env.start w) es.flatten ((c.toList.drop o).take (es.length * P.cellsOf e)) := VRels.blocks es (c.toList.drop o) fun i x hi => by
              obtain ⟨ci, hci, hv, _⟩ := hq i x hi
              obtain ⟨_, hcl, hcc⟩ := World.cells?_some hci
              have : ci = ((c.toList.drop o).drop (i * P.cellsOf e)).take (P.cellsOf e) := by
                apply List.ext_getElem?
                intro j
                by_cases hj : j < P.cellsOf e
                · rw [← hcc j hj, hadd]
                  have e1 : (Addr.mk B (o + i * P.cellsOf e) none).add j = ⟨B, o + (i * P.cellsOf e + j), none⟩ := by
                    unfold Addr.add
                    split
                    · rename_i h; subst h; rfl
                    · simp [Nat.add_assoc]
                  rw [e1, hcell]
                  simp only [List.getElem?_take, if_pos hj, List.getElem?_drop, Array.getElem?_toList]
                · rw [List.getElem?_eq_none (by omega), List.getElem?_take, if_neg hj]
              rw [← this]; exact hv
            exact .vsl (.inr ⟨c, ce, cf, hh, List.take_prefix _ _⟩) hb hl
    · rename_i fs
      simp only [Bool.and_eq_true, beq_iff_eq] at h
      obtain ⟨hc, hall⟩ := h
      rw [List.all_eq_true] at hall
      obtain ⟨xs, m, _, _, hcl, hxl, hf⟩ := DataW.trod_struct hu hx
      have hq : ∀ i, i < fs.size → ∃ as : List AV, ∀ f, fs.toList[i]? = some f → VRels (Env.start w) as ((cs.drop f.offset).take (P.cellsOf f.type)) ∧ Shp P n f.type as := by
        intro i hi
        have hfi : fs[i]? = some fs[i] := Array.getElem?_eq_getElem hi
        have h1 := hf i _ hfi
        rw [List.getElem?_eq_getElem (by omega)] at h1
        obtain ⟨as, h2, h3⟩ := open_plain (hall _ (by simp)) h1
        refine ⟨as, fun f hf' => ?_⟩
        have : fs[i]? = some f := by simpa using hf'
        rw [hfi] at this
        simp only [Option.some.injEq] at this
        subst this
        exact ⟨h2, h3⟩
      obtain ⟨ys, hyl, hq⟩ := exists_list hq
      have hyl' : ys.length = fs.toList.length := by simpa using hyl
      refine ⟨ys.flatten, ?_, ?_⟩
      · have := VRels.fields (P := P) (E := Env.start w) (cs := cs) fs.toList ys 0 _ hc hyl' fun i f x hf hx => (hq i x hx f hf).1
        rw [List.drop_zero, Nat.sub_zero, List.take_of_length_le (by omega)] at this
        exact this
      · unfold Shp; rw [hu]
        exact ⟨ys, rfl, hyl', fun i f x hf hx => (hq i x hx f hf).2⟩
    · simp at h
end
end Go.Abs
