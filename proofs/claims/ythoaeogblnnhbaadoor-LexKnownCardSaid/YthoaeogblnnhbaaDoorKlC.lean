/-
  Package-level variables whose data are known: what an address of one leads to.
-/
import Derived.Test.YthoaeogblnnhbaaDoorKlA
import Derived.OpenShut
import Derived.LaidLaws
import Derived.FnData
import GoSem.ClaimJoined
namespace Go.Abs
open Go Go.ChangeShapes

def dataAll (f : DataW Unit → Option (List AV)) : List (DataW Unit) → Option (List (List AV))
  | [] => some []
  | d :: r => match f d, dataAll f r with
    | some x, some xs => some (x :: xs)
    | _, _ => none
def dataFields (f : TypeId → DataW Unit → Option (List AV)) : List Field → List (DataW Unit) → Option (List (List AV))
  | [], [] => some []
  | fd :: fs, d :: r => match f fd.type d, dataFields f fs r with
    | some x, some xs => some (x :: xs)
    | _, _ => none
  | _, _ => none

/-- The cells that a datum is. 'N' names the one type of a name. -/
def dataAV (P : Program) (N : String → Option TypeId) : Nat → Bool → TypeId → DataW Unit → Option (List AV)
  | 0, _, _, _ => none
  | n + 1, top, t, d => match P.underlying t, d with
    | some .bool, .lit (.bool b) => some [.bool b]
    | some (.int k), .lit (.int k' m) => if k' = k then some [.int k m] else none
    | some .string, .lit (.string l) => some [.str l]
    | some (.pointer _), .nil => some [.nilptr]
    | some (.pointer e), .ptr d => if 0 < P.cellsOf e then (dataAV P N n false e d).map fun as => [.vptr as] else none
    | some (.array len e), .agg ds => if ds.length = len ∧ P.cellsOf t = len * P.cellsOf e then (dataAll (dataAV P N n top e) ds).map List.flatten else none
    | some (.struct fs), .agg ds => if consec P fs.toList 0 = some (P.cellsOf t) then (dataFields (dataAV P N n top) fs.toList ds).map List.flatten else none
    | some (.interface _), .nil => some [.niliface]
    | some (.interface _), .iface name d => if top = true then match N name with
        | some u => match P.underlying u with
          | some (.pointer _) => match dataAV P N n false u d with
            | some [a] => some [.iface u a]
            | _ => none
          | _ => none
        | none => none
      else none
    | _, _ => none

theorem dataAll_spec {f : DataW Unit → Option (List AV)} : ∀ {ds : List (DataW Unit)} {xs : List (List AV)}, dataAll f ds = some xs → xs.length = ds.length ∧ ∀ (i : Nat) (x : List AV), xs[i]? = some x → ∃ d, ds[i]? = some d ∧ f d = some x
  | [], xs, h => by simp [dataAll] at h; subst h; simp
  | d :: r, xs, h => by
    simp only [dataAll] at h
    split at h <;> try (simp at h; done)
    rename_i x ys h1 h2
    simp only [Option.some.injEq] at h; subst h
    obtain ⟨hl, hx⟩ := dataAll_spec h2
    refine ⟨by simp [hl], fun i y hy => ?_⟩
    cases i with
    | zero => simp at hy; subst hy; exact ⟨d, rfl, h1⟩
    | succ i => simpa using hx i y (by simpa using hy)

theorem dataFields_spec {f : TypeId → DataW Unit → Option (List AV)} : ∀ {fs : List Field} {ds : List (DataW Unit)} {xs : List (List AV)}, dataFields f fs ds = some xs → xs.length = fs.length ∧ ds.length = fs.length ∧ ∀ (i : Nat) (fd : Field) (x : List AV), fs[i]? = some fd → xs[i]? = some x → ∃ d, ds[i]? = some d ∧ f fd.type d = some x
  | [], [], xs, h => by simp [dataFields] at h; subst h; simp
  | [], _ :: _, _, h => by simp [dataFields] at h
  | _ :: _, [], _, h => by simp [dataFields] at h
  | fd :: fs, d :: r, xs, h => by
    simp only [dataFields] at h
    split at h <;> try (simp at h; done)
    rename_i x ys h1 h2
    simp only [Option.some.injEq] at h; subst h
    obtain ⟨hl, hd, hx⟩ := dataFields_spec h2
    refine ⟨by simp [hl], by simp [hd], fun i fd' y hf hy => ?_⟩
    cases i with
    | zero => simp at hf hy; subst hf; subst hy; exact ⟨d, rfl, h1⟩
    | succ i => simpa using hx i fd' y (by simpa using hf) (by simpa using hy)

section
variable {P : Program} {w : World} {N : String → Option TypeId} {sp : Nat → Bool}

theorem add_none (B o k : Nat) : (Addr.mk B o none).add k = ⟨B, o + k, none⟩ := by
  unfold Addr.add
  split
  · rename_i h; subst h; rfl
  · rfl

theorem data_open (hN : ∀ name u u', N name = some u → P.typeName? 3 u' = some name → u' = u) : ∀ {n : Nat} {top : Bool} {t : TypeId} {d : DataW Unit} {as : List AV} {fuel : Nat} {cs : List Value} {p : List MemPlace},
    dataAV P N n top t d = some as → DataW.trod (fun _ => ()) P w 0 sp false fuel t cs = some (d, p) →
    (top = true → ∀ u v, Value.iface u v ∈ cs → Value.okWide P w .any 0 u v) → VRels (Env.start w) as cs
  | 0, _, _, _, _, _, _, _, h, _, _ => by simp [dataAV] at h
  | n + 1, top, t, d, as, fuel, cs, p, h, hx, ok => by
    unfold dataAV at h
    split at h <;> rename_i hu
    · simp only [Option.some.injEq] at h; subst h
      obtain ⟨b, rfl, he⟩ := DataW.trod_bool hu hx
      simp at he; obtain ⟨rfl, rfl⟩ := he
      exact .cons (.bool _) .nil
    · obtain ⟨m, rfl, he, _⟩ := DataW.trod_int hu hx
      simp at he; obtain ⟨⟨rfl, rfl⟩, rfl⟩ := he
      simp at h; subst h
      exact .cons (.int _ _) .nil
    · simp only [Option.some.injEq] at h; subst h
      obtain ⟨s, rfl, he, _⟩ := DataW.trod_string hu hx
      simp at he; obtain ⟨rfl, rfl⟩ := he
      have := VRel.str (E := Env.start w) s.data.toList
      exact .cons (by simpa using this) .nil
    · simp only [Option.some.injEq] at h; subst h
      cases fuel with
      | zero => simp [DataW.trod] at hx
      | succ m =>
        match cs with
        | [] => simp [DataW.trod, hu] at hx
        | _ :: _ :: _ => simp [DataW.trod, hu] at hx
        | [c] =>
          cases c <;> simp [DataW.trod, hu] at hx
          rename_i o
          cases o with
          | none => exact .cons .nilptr .nil
          | some a =>
            simp only [Option.bind_eq_some_iff, Function.comp, Option.map_eq_some_iff] at hx
            obtain ⟨_, _, _, _, hx⟩ := hx
            simp at hx
    · rename_i e d'
      split at h <;> try (simp at h; done)
      rename_i hz
      simp only [Option.map_eq_some_iff] at h
      obtain ⟨xs, h, rfl⟩ := h
      obtain ⟨m, a, cs', q, rfl, hc, h2, rfl⟩ := ptr_of_trod hu hx
      have hv := data_open hN h h2 (by simp)
      obtain ⟨_, hcl, hce⟩ := World.cells?_some hc
      have h0 := hce 0 hz
      rw [List.getElem?_eq_getElem (by omega)] at h0
      have hspot : a.spot = none := by
        unfold World.cell? at h0
        split at h0
        · split at h0
          · simp at h0
          · rename_i hsn
            have : (a.add 0).spot = a.spot := rfl
            rw [this] at hsn
            simpa using hsn
        · simp at h0
      obtain ⟨B, o, s⟩ := a
      simp only at hspot; subst hspot
      have hblk : ∃ c e f, w.heap[B]? = some (.cells c e f) := by
        rw [add_none] at h0
        unfold World.cell? at h0
        simp only at h0
        split at h0
        · rename_i c e f hh; exact ⟨c, e, f, hh⟩
        · simp at h0
      obtain ⟨c, ce, cf, hh⟩ := hblk
      have hcell : ∀ k, w.cell? ⟨B, o + k, none⟩ = c[o + k]? := fun k => by
        unfold World.cell?; simp [hh]
      have he : cs' = (c.toList.drop o).take (P.cellsOf e) := by
        apply List.ext_getElem?
        intro j
        by_cases hj : j < P.cellsOf e
        · rw [← hce j hj, add_none, hcell]
          simp only [List.getElem?_take, if_pos hj, List.getElem?_drop, Array.getElem?_toList]
        · rw [List.getElem?_eq_none (by omega), List.getElem?_take, if_neg hj]
      refine .cons (.vptr (.inr ⟨c, ce, cf, hh, ?_⟩) hv) .nil
      rw [he]
      exact List.take_prefix _ _
    · rename_i len e ds
      split at h <;> try (simp at h; done)
      rename_i hz
      simp only [Option.map_eq_some_iff] at h
      obtain ⟨xs, h, rfl⟩ := h
      obtain ⟨ys, m, _, hd, hcl, hyl, hy⟩ := DataW.trod_array hu hx
      simp only [Prod.mk.injEq, DataW.agg.injEq] at hd
      obtain ⟨rfl, rfl⟩ := hd
      obtain ⟨hxl, hxs⟩ := dataAll_spec h
      have hxl' : xs.length = len := by simpa [hyl] using hxl
      have := VRels.blocks (E := Env.start w) (z := P.cellsOf e) xs cs fun i x hi => by
        obtain ⟨d, hd, hf⟩ := hxs i x hi
        have hlt : i < len := by rw [← hxl']; exact (List.getElem?_eq_some_iff.1 hi).1
        have h3 := hy i hlt
        rw [List.getElem?_eq_getElem (by omega)] at h3
        have hd' : (ys[i]'(by omega)).1 = d := by simpa [List.getElem?_eq_getElem (show i < ys.length by omega)] using hd
        rw [← hd'] at hf
        exact data_open hN hf h3 fun ht u v hm => ok ht u v (List.mem_of_mem_drop (List.mem_of_mem_take hm))
      rw [hxl', List.take_of_length_le (by omega)] at this
      exact this
    · rename_i fs ds
      split at h <;> try (simp at h; done)
      rename_i hz
      simp only [Option.map_eq_some_iff] at h
      obtain ⟨xs, h, rfl⟩ := h
      obtain ⟨ys, m, _, hd, hcl, hyl, hy⟩ := DataW.trod_struct hu hx
      simp only [Prod.mk.injEq, DataW.agg.injEq] at hd
      obtain ⟨rfl, rfl⟩ := hd
      obtain ⟨hxl, _, hxs⟩ := dataFields_spec h
      have := VRels.fields (P := P) (E := Env.start w) (cs := cs) fs.toList xs 0 _ hz hxl fun i f x hf hi => by
        obtain ⟨d, hd, hff⟩ := hxs i f x hf hi
        have hlt : i < ys.length := by
          have := (List.getElem?_eq_some_iff.1 hd).1
          simpa using this
        have h3 := hy i f (by simpa using hf)
        rw [List.getElem?_eq_getElem hlt] at h3
        have hd' : (ys[i]).1 = d := by simpa [List.getElem?_eq_getElem hlt] using hd
        rw [← hd'] at hff
        exact data_open hN hff h3 fun ht u v hm => ok ht u v (List.mem_of_mem_drop (List.mem_of_mem_take hm))
      rw [List.drop_zero, Nat.sub_zero, List.take_of_length_le (by omega)] at this
      exact this
    · simp only [Option.some.injEq] at h; subst h
      cases fuel with
      | zero => simp [DataW.trod] at hx
      | succ m =>
        match cs with
        | [] => simp [DataW.trod, hu] at hx
        | _ :: _ :: _ => simp [DataW.trod, hu] at hx
        | [c] =>
          cases c <;> simp [DataW.trod, hu] at hx
          · split at hx <;> simp at hx
          · exact .cons .niliface .nil
    · rename_i name d'
      split at h <;> try (simp at h; done)
      rename_i htop
      split at h <;> try (simp at h; done)
      rename_i u hnu
      split at h <;> try (simp at h; done)
      rename_i e hpu
      split at h <;> try (simp at h; done)
      rename_i a ha
      simp only [Option.some.injEq] at h; subst h
      obtain ⟨m, u', v, rfl, hname, h2⟩ := iface_of_trod hu hx
      obtain rfl := hN _ _ _ hnu hname
      have hok := ok htop u' v (by simp)
      have hvs := data_open hN ha h2 (by simp)
      have hv' : ∃ c, v = .pointer c := by
        unfold Value.okWide at hok
        simp only [hpu] at hok
        unfold Cell.okWide at hok
        cases v <;> simp [Cell.ok, hpu] at hok
        exact ⟨_, rfl⟩
      obtain ⟨c, rfl⟩ := hv'
      have hcl : (Value.pointer c).cells.toList = [.pointer c] := rfl
      rw [hcl] at hvs
      cases hvs with | cons hv _ => exact .cons (.iface hv) .nil
    · simp at h

/-- A listed variable's cells. -/
def laidAV (P : Program) (N : String → Option TypeId) (n : Nat) (name : String) (d : DataW Unit) : Option (Nat × List AV) :=
  match P.globalNamed name with
  | some g => match (P.globals[g]?).map (·.type) with
    | some t => (dataAV P N n true t d).map fun as => (g, as)
    | none => none
  | none => none

/-- What is known of all the listed variables. -/
def laidTab (P : Program) (N : String → Option TypeId) (n : Nat) : List (String × DataW Unit) → Option (List (Nat × List AV))
  | [] => some []
  | (name, d) :: r => match laidAV P N n name d, laidTab P N n r with
    | some x, some xs => some (x :: xs)
    | _, _ => none

def Gof : List (Nat × List AV) → Nat → Option AV
  | [], _ => none
  | (g, as) :: r, h => if h = g then some (.vptr as) else Gof r h

theorem laid_rel (hN : ∀ name u u', N name = some u → P.typeName? 3 u' = some name → u' = u) {n : Nat} : ∀ {L : List (String × DataW Unit)} {T : List (Nat × List AV)} {ps : List MemPlace}, laidTab P N n L = some T → DataW.LaidVars P w L ps →
    (∀ b off, MemPlace.cell b off ∈ ps → ∀ u v, w.cell? ⟨b, off, none⟩ = some (.iface u v) → Value.okWide P w .any 0 u v) → GRel (Env.start w) (Gof T)
  | [], T, ps, h, _, _ => by
    simp [laidTab] at h; subst h
    intro g a ha
    simp [Gof] at ha
  | (name, d) :: r, T, ps, h, hL, hok => by
    simp only [laidTab] at h
    split at h <;> try (simp at h; done)
    rename_i x xs h1 h2
    simp only [Option.some.injEq] at h; subst h
    obtain ⟨g, t, cs, fuel, p, q, hg, ht, hv, hd, hr, rfl⟩ := hL
    simp only [laidAV, hg, ht, Option.map_eq_some_iff] at h1
    obtain ⟨as, h1, rfl⟩ := h1
    have hrest := laid_rel hN h2 hr fun b off hm => hok b off (by simp [hm])
    intro k a ha
    simp only [Gof] at ha
    split at ha
    · rename_i he; subst he
      simp only [Option.some.injEq] at ha; subst ha
      have hvs := data_open hN h1 hd fun _ u v hm => by
        obtain ⟨i, hi⟩ := List.getElem?_of_mem hm
        refine hok k i ?_ u v ?_
        · simp only [List.mem_append, MemPlace.row, List.mem_map, List.mem_range]
          refine .inl (.inl ⟨i, ?_, by simp⟩)
          have := (List.getElem?_eq_some_iff.1 hi).1
          simpa using this
        · rw [World.var?_cell hg hv i]
          simpa using hi
      have hb : ∃ c e, w.heap[k]? = some (.cells cs c e) := by
        simp only [World.var?, hg, Option.bind_some] at hv
        split at hv <;> simp at hv
        subst hv
        rename_i hh; exact ⟨_, _, hh⟩
      obtain ⟨c, e, hb⟩ := hb
      exact .vptr (.inr ⟨cs, c, e, hb, by simp⟩) hvs
    · exact hrest k a ha

/-- The listed variables, as a row says them. -/
theorem laid_met (hN : ∀ name u u', N name = some u → P.typeName? 3 u' = some name → u' = u) {n : Nat} {L : List (String × DataW Unit)} (ht : (laidTab P N n L).isSome = true) (h : laidMet P L w) : GRel (Env.start w) (Gof ((laidTab P N n L).getD [])) := by
  obtain ⟨ps, h1, _, h3⟩ := h
  cases e : laidTab P N n L with
  | none => rw [e] at ht; simp at ht
  | some T => exact laid_rel hN e h1 fun b off hm => (h3 b off hm).2
end
end Go.Abs
