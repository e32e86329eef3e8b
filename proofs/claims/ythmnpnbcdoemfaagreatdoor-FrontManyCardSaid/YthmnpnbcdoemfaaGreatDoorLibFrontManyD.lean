/-
  Own library of this claim, part 4: texts one behind the other (FrH, FrI, FrJ, FrN, FrO, AbsZ, Facts, LxW1, AbsV, LxW2, LxW3, LxW4, LxW5, LxW6, LxW7, LxW8, SyP1, SyP2, SyP3, SyP4, SyP5, SyP6, SyP7, SyP8, SyP9, SyP10, SyP11, SyP12).
-/
import Derived.IntWalk
import Derived.Test.YthmnpnbcdoemfaaGreatDoorProg
import Derived.KernelRfl
import Derived.Test.YthmnpnbcdoemfaaGreatDoorLibFrontManyC

namespace Go.Abs
open Go
def AHeap.ofList (l : List AObj) : AHeap := { next := l.length, get := fun j => l[j]? }
theorem ofList_push (l : List AObj) (x : AObj) : (AHeap.ofList l).push x = AHeap.ofList (l ++ [x]) := by
  refine AHeap.ext' (by simp [AHeap.ofList, AHeap.push]) fun j => ?_
  show (if j = l.length then some x else l[j]?) = (l ++ [x])[j]?
  by_cases h : j = l.length
  · subst h; simp
  · rw [if_neg h]
    by_cases h2 : j < l.length
    · rw [List.getElem?_append_left h2]
    · rw [List.getElem?_eq_none (by omega), List.getElem?_eq_none (by simp; omega)]
theorem ofList_foldl : ∀ (l l0 : List AObj), l.foldl AHeap.push (AHeap.ofList l0) = AHeap.ofList (l0 ++ l)
  | [], l0 => by simp
  | x :: l, l0 => by rw [List.foldl_cons, ofList_push, ofList_foldl l]; simp
theorem ofList_nil : AHeap.empty 0 = AHeap.ofList [] := AHeap.ext' rfl fun j => by simp [AHeap.empty, AHeap.ofList]
noncomputable def heapK (l : List AObj) : FH → (FH → Bool) → Bool := List.rec (motive := fun _ => FH → (FH → Bool) → Bool) (fun H k => k H) (fun x _ ih H k => H.newX x (fun _ H => ih H k) false) l
theorem heapK_inv : ∀ {l : List AObj} {H : FH} {k : FH → Bool}, heapK l H k = true → ∃ H' : FH, H'.abs = l.foldl AHeap.push H.abs ∧ k H' = true
  | [], H, k, h => ⟨H, rfl, h⟩
  | x :: l, H, k, h => by
    have h : H.newX x (fun _ H => heapK l H k) false = true := h
    obtain ⟨H1, h1, h2⟩ := FH.newX_inv h
    obtain ⟨H', h3, h4⟩ := heapK_inv h2
    exact ⟨H', by rw [h3, h1]; rfl, h4⟩
def AV.resN (m : Nat) (get : Nat → Option AObj) : Nat → AV → Option AV
  | 0, _ => none
  | n + 1, v => match v with
    | .ptr i o => match Nat.blt i m, get i with
      | false, some (.cells cs) => (optAll ((cs.drop o).map (AV.resN m get n))).map .vptr
      | _, _ => none
    | .sl i o z len _ _ => match Nat.blt i m, get i with
      | false, some (.cells cs) => (optAll (((cs.drop o).take (len * z)).map (AV.resN m get n))).map (.vsl · len)
      | _, _ => none
    | .vptr cs => (optAll (cs.map (AV.resN m get n))).map .vptr
    | .vsl cs len => (optAll (cs.map (AV.resN m get n))).map (.vsl · len)
    | .agg cs => (optAll (cs.map (AV.resN m get n))).map .agg
    | .tuple cs => (optAll (cs.map (AV.resN m get n))).map .tuple
    | .bool b => some (.bool b)
    | .int k x => some (.int k x)
    | .str s => some (.str s)
    | .nilptr => some .nilptr
    | .nilsl => some .nilsl
    | .nilmap => some .nilmap
    | .nilfunc => some .nilfunc
    | .niliface => some .niliface
    | _ => none
theorem resN_list {m n : Nat} {get : Nat → Option AObj} (ih : ∀ v r, AV.resN m get n v = some r → ResV get m v r) : ∀ {vs rs : List AV}, optAll (vs.map (AV.resN m get n)) = some rs → ResL get m vs rs
  | [], rs, h => by simp [optAll] at h; subst h; exact .nil
  | v :: vs, rs, h => by
    simp only [List.map_cons] at h
    cases hv : AV.resN m get n v with
    | none => rw [hv] at h; simp [optAll] at h
    | some a =>
      rw [hv] at h
      simp only [optAll, Option.map_eq_some_iff] at h
      obtain ⟨l, hl, rfl⟩ := h
      exact .cons (ih _ _ hv) (resN_list ih hl)
theorem resN_resV {m : Nat} {get : Nat → Option AObj} : ∀ (n : Nat) (v r : AV), AV.resN m get n v = some r → ResV get m v r
  | 0, v, r, h => by simp [AV.resN] at h
  | n + 1, v, r, h => by
    have ih := resN_resV (m := m) (get := get) n
    have blt : ∀ i, Nat.blt i m = false → m ≤ i := fun i hi => by
      rcases Nat.lt_or_ge i m with g | g
      · have : Nat.blt i m = true := by rw [Nat.blt_eq]; exact g
        rw [this] at hi; simp at hi
      · exact g
    cases v with
    | ptr i o =>
      simp only [AV.resN] at h
      split at h <;> try (simp at h; done)
      rename_i cs h1 h2
      simp only [Option.map_eq_some_iff] at h
      obtain ⟨rs, h, rfl⟩ := h
      exact .ptr (blt i h1) h2 (resN_list ih h)
    | sl i o z len cap opn =>
      simp only [AV.resN] at h
      split at h <;> try (simp at h; done)
      rename_i cs h1 h2
      simp only [Option.map_eq_some_iff] at h
      obtain ⟨rs, h, rfl⟩ := h
      exact .sl (blt i h1) h2 (resN_list ih h)
    | vptr cs =>
      simp only [AV.resN, Option.map_eq_some_iff] at h
      obtain ⟨rs, h, rfl⟩ := h
      exact .vptr (resN_list ih h)
    | vsl cs len =>
      simp only [AV.resN, Option.map_eq_some_iff] at h
      obtain ⟨rs, h, rfl⟩ := h
      exact .vsl (resN_list ih h)
    | agg cs =>
      simp only [AV.resN, Option.map_eq_some_iff] at h
      obtain ⟨rs, h, rfl⟩ := h
      exact .agg (resN_list ih h)
    | tuple cs =>
      simp only [AV.resN, Option.map_eq_some_iff] at h
      obtain ⟨rs, h, rfl⟩ := h
      exact .tuple (resN_list ih h)
    | bool b => simp [AV.resN] at h; subst h; exact .old rfl
    | int k x => simp [AV.resN] at h; subst h; exact .old rfl
    | str s => simp [AV.resN] at h; subst h; exact .old rfl
    | nilptr => simp [AV.resN] at h; subst h; exact .old rfl
    | nilsl => simp [AV.resN] at h; subst h; exact .old rfl
    | nilmap => simp [AV.resN] at h; subst h; exact .old rfl
    | nilfunc => simp [AV.resN] at h; subst h; exact .old rfl
    | niliface => simp [AV.resN] at h; subst h; exact .old rfl
    | map i => simp [AV.resN] at h
    | func f a b => simp [AV.resN] at h
    | iface t v => simp [AV.resN] at h
def heapOk (n : Nat) (l : List AObj) : Bool := l.all fun x => AV.allLt n x.cellsList
theorem heapOk_wf {l : List AObj} (h : heapOk l.length l = true) : (AHeap.ofList l).Wf := fun i x hi => by
  have hi : l[i]? = some x := hi
  refine ⟨?_, ?_⟩
  · show i < l.length
    rcases Nat.lt_or_ge i l.length with g | g
    · exact g
    · rw [List.getElem?_eq_none g] at hi; simp at hi
  · unfold heapOk at h
    rw [List.all_eq_true] at h
    exact h x (List.mem_of_getElem? hi)
theorem tick_does {P : Program} {G : Nat → Option AV} {ov : Ov} {f : FuncId} {fuel n : Nat} (hm : P.follows .mixedOrders = true) (hp : plainFn P = true) (hov : OvGoodK P G ov) {g g' : List AObj} {args : List AV} {r : AV}
    (hl : g'.length = g.length) (hg' : heapOk g.length g' = true)
    (h : ∀ Q : Option AV → List (Option AObj) → Bool, heapK g FH.empty (fun H => fcall ov P G fuel n f args H fun v H' => Q (v.resN g.length H'.abs.get 1000) ((List.range g.length).map H'.abs.get)) = Q (some r) (g'.map some)) :
    Does P G f args (AHeap.ofList g) fun x H => x = r ∧ H = AHeap.ofList g' := by
  classical
  have h1 := h fun a b => decide (a = some r ∧ b = g'.map some)
  simp only [and_self, decide_true] at h1
  obtain ⟨H, hH, h2⟩ := heapK_inv h1
  rw [FH.abs_empty, ofList_nil, ofList_foldl, List.nil_append] at hH
  obtain ⟨v, H', hd, _, hk⟩ := fcall_sound hm hp hov n f args H _ h2
  rw [hH] at hd
  simp only [decide_eq_true_eq] at hk
  obtain ⟨k1, k2⟩ := hk
  refine Does.deep hd ?_
  rintro hw ha x H1 ⟨rfl, rfl⟩
  refine ⟨r, AHeap.ofList g', resN_resV _ _ _ k1, hl, fun i x hi => ?_, rfl, rfl⟩
  have hi : g'[i]? = some x := hi
  have hlt : i < g'.length := by
    rcases Nat.lt_or_ge i g'.length with q | q
    · exact q
    · rw [List.getElem?_eq_none q] at hi; simp at hi
  refine ⟨?_, by show i < g.length; omega, ?_⟩
  · have := congrArg (fun l => l[i]?) k2
    simp only [List.getElem?_map, List.getElem?_range (show i < g.length by omega), Option.map_some, hi, Option.some.injEq] at this
    exact this
  · unfold heapOk at hg'
    rw [List.all_eq_true] at hg'
    exact hg' x (List.mem_of_getElem? hi)
end Go.Abs

namespace Go.Abs
open Go
theorem patch_off {H H1 : AHeap} {m : Nat} {ρ : Nat → Nat} {j : Nat} (h : ∀ i, i < m → ρ i ≠ j) : (H.patch H1 m ρ).get j = H.get j := by
  show (match (List.range m).find? (fun i => ρ i == j) with | some i => (H1.get i).map (AObj.ren ρ) | none => H.get j) = H.get j
  have : (List.range m).find? (fun i => ρ i == j) = none := by
    rw [List.find?_eq_none]
    intro i hi
    simpa using h i (by simpa using hi)
  rw [this]
theorem patch_on {H H1 : AHeap} {m : Nat} {ρ : Nat → Nat} (hinj : ∀ i j, i < m → j < m → ρ i = ρ j → i = j) {i : Nat} (hi : i < m) : (H.patch H1 m ρ).get (ρ i) = (H1.get i).map (AObj.ren ρ) := by
  show (match (List.range m).find? (fun k => ρ k == ρ i) with | some i => (H1.get i).map (AObj.ren ρ) | none => H.get (ρ i)) = _
  cases hf : (List.range m).find? (fun k => ρ k == ρ i) with
  | none =>
    rw [List.find?_eq_none] at hf
    have := hf i (by simpa using hi)
    simp at this
  | some k =>
    have h1 := List.mem_of_find?_eq_some hf
    have h2 := List.find?_some hf
    have : k = i := hinj k i (by simpa using h1) hi (by simpa using h2)
    rw [this]
theorem IsPart.keep {H0 H H' : AHeap} {ρ : Nat → Nat} (h : IsPart H0 ρ H) (hk : ∀ i, i < H0.next → H'.get (ρ i) = H.get (ρ i)) : IsPart H0 ρ H' :=
  ⟨fun i hi => by
    obtain ⟨x, h1, h2⟩ := h.full i hi
    exact ⟨x, h1, by rw [hk i hi]; exact h2⟩, h.inj⟩
theorem IsPart.patch {l l' : List AObj} {H : AHeap} {ρ : Nat → Nat} (h : IsPart (AHeap.ofList l) ρ H) (hl : l'.length = l.length) : IsPart (AHeap.ofList l') ρ (H.patch (AHeap.ofList l') l.length ρ) := by
  have hn : (AHeap.ofList l').next = l.length := hl
  have hinj : ∀ i j, i < l.length → j < l.length → ρ i = ρ j → i = j := h.inj
  refine ⟨fun i hi => ?_, fun i j hi hj => hinj i j (by rw [hn] at hi; exact hi) (by rw [hn] at hj; exact hj)⟩
  rw [hn] at hi
  have hg : (AHeap.ofList l').get i = some (l'[i]'(by omega)) := List.getElem?_eq_getElem (by omega)
  refine ⟨l'[i]'(by omega), hg, ?_⟩
  rw [patch_on hinj hi, hg]; rfl
mutual
theorem AV.ren_ren (ρ τ : Nat → Nat) : ∀ v : AV, (v.ren ρ).ren τ = v.ren fun i => τ (ρ i)
  | .bool _ => rfl
  | .int _ _ => rfl
  | .str _ => rfl
  | .nilptr => rfl
  | .ptr _ _ => rfl
  | .vptr cs => by simp only [AV.ren]; rw [AV.rens_rens ρ τ cs]
  | .nilsl => rfl
  | .sl _ _ _ _ _ _ => rfl
  | .vsl cs n => by simp only [AV.ren]; rw [AV.rens_rens ρ τ cs]
  | .nilmap => rfl
  | .map _ => rfl
  | .func f a b => by simp only [AV.ren]; rw [AV.rens_rens ρ τ a, AV.rens_rens ρ τ b]
  | .nilfunc => rfl
  | .iface t v => by simp only [AV.ren]; rw [AV.ren_ren ρ τ v]
  | .niliface => rfl
  | .agg cs => by simp only [AV.ren]; rw [AV.rens_rens ρ τ cs]
  | .tuple cs => by simp only [AV.ren]; rw [AV.rens_rens ρ τ cs]
theorem AV.rens_rens (ρ τ : Nat → Nat) : ∀ l : List AV, AV.rens τ (AV.rens ρ l) = AV.rens (fun i => τ (ρ i)) l
  | [] => rfl
  | a :: l => by simp only [AV.rens]; rw [AV.ren_ren ρ τ a, AV.rens_rens ρ τ l]
end
theorem AObj.ren_ren (ρ τ : Nat → Nat) (x : AObj) : (x.ren ρ).ren τ = x.ren fun i => τ (ρ i) := by
  cases x with
  | cells cs => simp only [AObj.ren, AV.rens_rens]
  | row t cs => simp only [AObj.ren, AV.rens_rens]
  | map es => simp only [AObj.ren, List.map_map, AObj.map.injEq]; congr 1; funext e; simp only [Function.comp, AV.ren_ren]
mutual
theorem AV.ren_id {ρ : Nat → Nat} {m : Nat} (h : ∀ i, i < m → ρ i = i) : ∀ v : AV, v.idLt m = true → v.ren ρ = v
  | .bool _, _ => rfl
  | .int _ _, _ => rfl
  | .str _, _ => rfl
  | .nilptr, _ => rfl
  | .ptr i o, hv => by rw [AV.ren, h i (by simpa [AV.idLt] using hv)]
  | .vptr cs, hv => by rw [AV.ren, AV.rens_id h cs (by simpa [AV.idLt] using hv)]
  | .nilsl, _ => rfl
  | .sl i _ _ _ _ _, hv => by rw [AV.ren, h i (by simpa [AV.idLt] using hv)]
  | .vsl cs n, hv => by rw [AV.ren, AV.rens_id h cs (by simpa [AV.idLt] using hv)]
  | .nilmap, _ => rfl
  | .map i, hv => by rw [AV.ren, h i (by simpa [AV.idLt] using hv)]
  | .func f a b, hv => by
    simp only [AV.idLt, Bool.and_eq_true] at hv
    rw [AV.ren, AV.rens_id h a hv.1, AV.rens_id h b hv.2]
  | .nilfunc, _ => rfl
  | .iface t v, hv => by rw [AV.ren, AV.ren_id h v (by simpa [AV.idLt] using hv)]
  | .niliface, _ => rfl
  | .agg cs, hv => by rw [AV.ren, AV.rens_id h cs (by simpa [AV.idLt] using hv)]
  | .tuple cs, hv => by rw [AV.ren, AV.rens_id h cs (by simpa [AV.idLt] using hv)]
theorem AV.rens_id {ρ : Nat → Nat} {m : Nat} (h : ∀ i, i < m → ρ i = i) : ∀ l : List AV, AV.allLt m l = true → AV.rens ρ l = l
  | [], _ => rfl
  | a :: l, hl => by
    simp only [AV.allLt, Bool.and_eq_true] at hl
    rw [AV.rens, AV.ren_id h a hl.1, AV.rens_id h l hl.2]
end
theorem fresh_does {P : Program} {G : Nat → Option AV} {ov : Ov} {f : FuncId} {fuel n : Nat} (hm : P.follows .mixedOrders = true) (hp : plainFn P = true) (hov : OvGoodK P G ov) (hG : ∀ g a, G g = some a → a.idLt 0 = true) {args : List AV} {g : List AObj} {perm : List Nat}
    (ha : AV.allLt 0 args = true) (hl : perm.length = g.length) (hinj : perm.Nodup)
    (h : ∀ Q : AV → List (Option AObj) → Bool, fcall ov P G fuel n f args FH.empty (fun v H => Q v (perm.map H.abs.get)) = Q (.ptr (perm.headD 0) 0) (g.map fun x => some (x.ren fun i => perm.getD i 0))) (H : AHeap) :
    Does P G f args H fun r h => ∃ ρ : Nat → Nat, IsPart (AHeap.ofList g) ρ h ∧ (∀ i, i < g.length → H.next ≤ ρ i) ∧ r = .ptr (ρ 0) 0 ∧ H.next ≤ h.next ∧ ∀ j, j < H.next → h.get j = H.get j := by
  classical
  have h1 := h fun a b => decide (a = .ptr (perm.headD 0) 0 ∧ b = g.map fun x => some (x.ren fun i => perm.getD i 0))
  simp only [and_self, decide_true] at h1
  obtain ⟨v, H', hd, _, hk⟩ := fcall_sound hm hp hov n f args FH.empty _ h1
  rw [FH.abs_empty, ofList_nil] at hd
  simp only [decide_eq_true_eq] at hk
  obtain ⟨rfl, k2⟩ := hk
  have hw0 : (AHeap.ofList []).Wf := heapOk_wf (l := []) rfl
  have hp0 : IsPart (AHeap.ofList []) (fun _ => 0) H := ⟨fun i hi => absurd hi (Nat.not_lt_zero i), fun i j hi _ _ => absurd hi (Nat.not_lt_zero i)⟩
  have hd2 := hd.partNew hw0 ha hp0 hG fun r H1 _ => Nat.zero_le _
  rw [AV.rens_id (m := 0) (fun i hi => absurd hi (Nat.not_lt_zero i)) args ha] at hd2
  refine Does.mono hd2 ?_
  rintro r hh ⟨r0, H1, ⟨rfl, rfl⟩, rfl, rfl⟩
  have hren : ∀ i, renNew (fun _ => 0) (AHeap.ofList []).next H.next i = H.next + i := fun i => by
    unfold renNew
    rw [if_neg (by exact Nat.not_lt_zero i)]
    show H.next + (i - 0) = _
    omega
  refine ⟨fun i => H.next + perm.getD i 0, ⟨fun i hi => ?_, fun i j hi hj e => ?_⟩, fun i _ => Nat.le_add_right _ _, ?_, Nat.le_add_right _ _, fun j hj => ?_⟩
  · have hi : i < g.length := hi
    have hg : (AHeap.ofList g).get i = some (g[i]) := List.getElem?_eq_getElem hi
    refine ⟨g[i], hg, ?_⟩
    have k3 := congrArg (fun l => l[i]?) k2
    simp only [List.getElem?_map, List.getElem?_eq_getElem hi, List.getElem?_eq_getElem (show i < perm.length by omega), Option.map_some, Option.some.injEq] at k3
    have hpi : perm.getD i 0 = perm[i] := by rw [List.getD_eq_getElem?_getD, List.getElem?_eq_getElem (show i < perm.length by omega)]; rfl
    show (if H.next ≤ H.next + perm.getD i 0 then (H'.abs.get (0 + (H.next + perm.getD i 0 - H.next))).map (AObj.ren (renNew (fun _ => 0) (AHeap.ofList []).next H.next)) else _) = _
    rw [if_pos (Nat.le_add_right _ _), hpi, show 0 + (H.next + perm[i] - H.next) = perm[i] by omega, k3, Option.map_some, AObj.ren_ren]
    exact congrArg some (congrArg (fun τ => AObj.ren τ g[i]) (funext fun k => hren _))
  · have hi : i < perm.length := by have : i < g.length := hi; omega
    have hj : j < perm.length := by have : j < g.length := hj; omega
    have e : H.next + perm.getD i 0 = H.next + perm.getD j 0 := e
    rw [List.getD_eq_getElem?_getD, List.getElem?_eq_getElem hi, List.getD_eq_getElem?_getD, List.getElem?_eq_getElem hj] at e
    have e2 : perm[i] = perm[j] := by simpa using e
    exact (List.nodup_iff_pairwise_ne.1 hinj |> fun hp => by
      rcases Nat.lt_trichotomy i j with q | q | q
      · exact absurd e2 (List.pairwise_iff_getElem.1 hp i j hi hj q)
      · exact q
      · exact absurd e2.symm (List.pairwise_iff_getElem.1 hp j i hj hi q))
  · show AV.ptr (renNew (fun _ => 0) (AHeap.ofList []).next H.next (perm.headD 0)) 0 = _
    rw [hren]
    cases perm <;> rfl
  · show (if H.next ≤ j then _ else _) = _
    rw [if_neg (by omega)]
    rfl
end Go.Abs

namespace Go.Abs
open Go
theorem tick_part {P : Program} {G : Nat → Option AV} {f : FuncId} {l l' : List AObj} {i0 : Nat} {args : List AV} {y : AV} (h : Does P G f (.ptr i0 0 :: args) (AHeap.ofList l) fun r H => r = y ∧ H = AHeap.ofList l')
    (hi : i0 < l.length) (hl : l'.length = l.length) (hok : heapOk l.length l = true) (ha : ∀ n, AV.allLt n args = true) (hy : ∀ n, y.idLt n = true) (hG : ∀ g a, G g = some a → a.idLt 0 = true) {H : AHeap} {ρ : Nat → Nat} (hp : IsPart (AHeap.ofList l) ρ H) :
    Does P G f (.ptr (ρ i0) 0 :: args) H fun r h => r = y ∧ h = H.patch (AHeap.ofList l') l.length ρ := by
  have h1 := h.part (heapOk_wf hok) (by
    simp only [AV.allLt, Bool.and_eq_true]
    refine ⟨?_, ha _⟩
    have hi : i0 < (AHeap.ofList l).next := hi
    rw [AV.idLt]
    simpa using hi) hp hG fun r H1 ⟨e1, e2⟩ => ⟨by rw [e2]; exact hl, by rw [e1]; exact hy _⟩
  rw [AV.rens, AV.ren, AV.rens_id (m := 0) (fun i hi => absurd hi (Nat.not_lt_zero i)) args (ha _)] at h1
  refine h1.mono ?_
  rintro r hh ⟨r0, H1, ⟨rfl, rfl⟩, rfl, rfl⟩
  exact ⟨AV.ren_id (m := 0) (fun i hi => absurd hi (Nat.not_lt_zero i)) _ (hy _), rfl⟩
theorem sym_does {P : Program} {G : Nat → Option AV} {ov : Ov} {f : FuncId} {fuel n : Nat} (hm : P.follows .mixedOrders = true) (hp : plainFn P = true) (hov : OvGoodK P G ov) (hG : ∀ g a, G g = some a → a.idLt 0 = true) {args : List AV} {r : AV} (ha : AV.allLt 0 args = true)
    (h : ∀ Q : Option AV → Bool, fcall ov P G fuel n f args FH.empty (fun v H' => Q (v.resN 0 H'.abs.get 1000)) = Q (some r)) (hr : ∀ n, r.idLt n = true) (H : AHeap) : Does P G f args H fun x h => x = r ∧ h = H := by
  classical
  have h1 : Does P G f args (AHeap.ofList []) fun x H => x = r ∧ H = AHeap.ofList [] := tick_does (fuel := fuel) (n := n) hm hp hov (g := []) (g' := []) rfl rfl fun Q => h fun a => Q a []
  have h2 := h1.part (heapOk_wf (l := []) rfl) ha (H := H) (ρ := fun i => i) ⟨fun i hi => absurd hi (Nat.not_lt_zero i), fun i j hi _ _ => absurd hi (Nat.not_lt_zero i)⟩ hG fun x H1 ⟨e1, e2⟩ => ⟨by rw [e2], by rw [e1]; exact hr _⟩
  rw [AV.rens_id (m := 0) (fun i hi => absurd hi (Nat.not_lt_zero i)) args ha] at h2
  refine h2.mono ?_
  rintro x hh ⟨r0, H1, ⟨rfl, rfl⟩, rfl, rfl⟩
  exact ⟨AV.ren_id (m := 0) (fun i hi => absurd hi (Nat.not_lt_zero i)) _ (hr _), rfl⟩
end Go.Abs

namespace Go.Abs
open Go
theorem patch_same {l : List AObj} {H : AHeap} {ρ : Nat → Nat} (hp : IsPart (AHeap.ofList l) ρ H) : H.patch (AHeap.ofList l) l.length ρ = H := by
  refine AHeap.ext' rfl fun j => ?_
  by_cases h : ∃ i, i < l.length ∧ ρ i = j
  · obtain ⟨i, hi, rfl⟩ := h
    rw [patch_on (m := l.length) hp.inj hi]
    obtain ⟨x, h1, h2⟩ := hp.full i hi
    rw [h1, h2]; rfl
  · exact patch_off fun i hi e => h ⟨i, hi, e⟩
theorem part_one {cs : List AV} {H : AHeap} {k : Nat} (hk : H.get k = some (.cells cs)) (h0 : AV.allLt 0 cs = true) : IsPart (AHeap.ofList [.cells cs]) (fun _ => k) H := by
  refine ⟨fun i hi => ?_, fun i j hi hj _ => ?_⟩
  · have hi : i < 1 := hi
    obtain rfl : i = 0 := by omega
    refine ⟨.cells cs, rfl, ?_⟩
    rw [hk, AObj.ren, AV.rens_id (m := 0) (fun i hi => absurd hi (Nat.not_lt_zero i)) cs h0]
  · have hi : i < 1 := hi
    have hj : j < 1 := hj
    omega
theorem one_does {P : Program} {G : Nat → Option AV} {ov : Ov} {f : FuncId} {fuel n : Nat} (hm : P.follows .mixedOrders = true) (hp : plainFn P = true) (hov : OvGoodK P G ov) (hG : ∀ g a, G g = some a → a.idLt 0 = true) {cs args : List AV} {r : AV}
    (h0 : AV.allLt 0 cs = true) (h1 : AV.allLt 1 cs = true) (ha : ∀ n, AV.allLt n args = true) (hr : ∀ n, r.idLt n = true)
    (h : ∀ Q : Option AV → List (Option AObj) → Bool, heapK [.cells cs] FH.empty (fun H => fcall ov P G fuel n f (.ptr 0 0 :: args) H fun v H' => Q (v.resN 1 H'.abs.get 1000) ((List.range 1).map H'.abs.get)) = Q (some r) ([.cells cs].map some))
    {H : AHeap} {k : Nat} (hk : H.get k = some (.cells cs)) : Does P G f (.ptr k 0 :: args) H fun x h => x = r ∧ h = H := by
  have hok : heapOk 1 [AObj.cells cs] = true := by simp [heapOk, AObj.cellsList, h1]
  have hd := tick_does hm hp hov (g := [.cells cs]) (g' := [.cells cs]) rfl hok h
  have hpt := part_one hk h0
  refine (tick_part (l := [.cells cs]) (l' := [.cells cs]) (i0 := 0) hd (by simp) rfl hok ha hr hG hpt).mono ?_
  rintro x hh ⟨rfl, rfl⟩
  exact ⟨rfl, patch_same hpt⟩
end Go.Abs

namespace Go.Abs
open Go
theorem patchNew_off {H H1 : AHeap} {m : Nat} {ρ : Nat → Nat} {j : Nat} (hj : j < H.next) (h : ∀ i, i < m → ρ i ≠ j) : (H.patchNew H1 m ρ).get j = H.get j := by
  show (if H.next ≤ j then _ else match (List.range m).find? (fun i => ρ i == j) with | some i => (H1.get i).map (AObj.ren (renNew ρ m H.next)) | none => H.get j) = H.get j
  rw [if_neg (by omega)]
  have : (List.range m).find? (fun i => ρ i == j) = none := by
    rw [List.find?_eq_none]
    intro i hi
    simp only [List.mem_range] at hi
    simpa using h i hi
  rw [this]
theorem one_new {P : Program} {G : Nat → Option AV} {ov : Ov} {f : FuncId} {fuel n : Nat} (hm : P.follows .mixedOrders = true) (hp : plainFn P = true) (hov : OvGoodK P G ov) (hG : ∀ g a, G g = some a → a.idLt 0 = true) {cs : List AV} {r : AV}
    (h0 : AV.allLt 0 cs = true) (h1 : AV.allLt 1 cs = true) (hr : ∀ n, r.idLt n = true)
    (h : ∀ Q : AV → Bool, heapK [.cells cs] FH.empty (fun H => fcall ov P G fuel n f [.ptr 0 0] H fun v _ => Q v) = Q r)
    {H : AHeap} {k : Nat} (hk : H.get k = some (.cells cs)) : Does P G f [.ptr k 0] H fun x h => x = r ∧ ∀ j x, j ≠ k → H.get j = some x → h.get j = some x := by
  classical
  refine Does.wfs fun hw _ => ?_
  have h2 := h fun a => decide (a = r)
  simp only [decide_true] at h2
  obtain ⟨H0, hH, h3⟩ := heapK_inv h2
  rw [FH.abs_empty, ofList_nil, ofList_foldl, List.nil_append] at hH
  obtain ⟨v, H', hd, hnx, hk3⟩ := fcall_sound hm hp hov n f _ H0 _ h3
  rw [hH] at hd
  simp only [decide_eq_true_eq] at hk3
  subst hk3
  have hpt := part_one hk h0
  have hok : heapOk 1 [AObj.cells cs] = true := by simp [heapOk, AObj.cellsList, h1]
  have h4 := hd.partNew (heapOk_wf (l := [.cells cs]) hok) rfl hpt hG fun r H1 ⟨_, e2⟩ => by
    rw [e2]
    have hn : H0.next = (AHeap.ofList [AObj.cells cs]).next := congrArg AHeap.next hH
    rw [← hn]; exact hnx
  refine h4.mono ?_
  rintro x hh ⟨r0, H1, ⟨rfl, rfl⟩, rfl, rfl⟩
  refine ⟨AV.ren_id (m := 0) (fun i hi => absurd hi (Nat.not_lt_zero i)) _ (hr _), fun j x hj hx => ?_⟩
  rw [patchNew_off (hw _ _ hx).1 fun i hi => Ne.symm hj]
  exact hx
end Go.Abs

namespace Go.Abs
open Go
attribute [simp] awanted ayield acallee aop aallocC alookup afind asame keyed atup amaplen amapput apure aval tput ofConst ofConst1 ofConsts abin aint2 ashift astr2 aeqIn aeqFields aun aconv aslice abounds abound afieldAddr afield aindexAddr aindex aextract alen acap amin amax abuild afill aplaces aagg apart' aread aat acut afirst alenOf abytes aalloc arep aeff aappend acopy aclear ares aresults aresult avals apairs aopt splice Region.isConst undefA isSeq
@[simp] theorem eff_same (H : AHeap) : H.eff .same = H := rfl
@[simp] theorem eff_put (H : AHeap) (i : Nat) (x : AObj) : H.eff (.put i x) = H.set i x := rfl
@[simp] theorem eff_new (H : AHeap) (x : AObj) : H.eff (.new x) = H.push x := rfl
@[simp] theorem eff_move (H : AHeap) (i : Nat) (x : AObj) : H.eff (.move i x) = (H.kill i).push x := rfl
@[simp] theorem scalar_bool (b : Bool) : (AV.bool b).scalar = true := rfl
@[simp] theorem scalar_int (k : IntKind) (n : Int) : (AV.int k n).scalar = true := rfl
@[simp] theorem scalar_str (s : List UInt8) : (AV.str s).scalar = true := rfl
@[simp] theorem scalar_nilptr : AV.nilptr.scalar = true := rfl
@[simp] theorem scalar_ptr (i o : Nat) : (AV.ptr i o).scalar = true := rfl
@[simp] theorem scalar_vptr (c : List AV) : (AV.vptr c).scalar = true := rfl
@[simp] theorem scalar_nilsl : AV.nilsl.scalar = true := rfl
@[simp] theorem scalar_sl (i o z l c : Nat) (b : Bool) : (AV.sl i o z l c b).scalar = true := rfl
@[simp] theorem scalar_vsl (c : List AV) (n : Nat) : (AV.vsl c n).scalar = true := rfl
@[simp] theorem scalar_nilmap : AV.nilmap.scalar = true := rfl
@[simp] theorem scalar_func (f : Fn) (a b : List AV) : (AV.func f a b).scalar = true := rfl
@[simp] theorem scalar_nilfunc : AV.nilfunc.scalar = true := rfl
@[simp] theorem scalar_iface (t : TypeId) (v : AV) : (AV.iface t v).scalar = true := rfl
@[simp] theorem scalar_niliface : AV.niliface.scalar = true := rfl
@[simp] theorem cells_agg (c : List AV) : (AV.agg c).cells = c := rfl
@[simp] theorem cells_bool (b : Bool) : (AV.bool b).cells = [.bool b] := rfl
@[simp] theorem cells_int (k : IntKind) (n : Int) : (AV.int k n).cells = [.int k n] := rfl
@[simp] theorem cells_str (s : List UInt8) : (AV.str s).cells = [.str s] := rfl
@[simp] theorem cells_nilptr : AV.nilptr.cells = [.nilptr] := rfl
@[simp] theorem cells_ptr (i o : Nat) : (AV.ptr i o).cells = [.ptr i o] := rfl
@[simp] theorem cells_vptr (c : List AV) : (AV.vptr c).cells = [.vptr c] := rfl
@[simp] theorem cells_nilsl : AV.nilsl.cells = [.nilsl] := rfl
@[simp] theorem cells_sl (i o z l c : Nat) (b : Bool) : (AV.sl i o z l c b).cells = [.sl i o z l c b] := rfl
@[simp] theorem cells_vsl (c : List AV) (n : Nat) : (AV.vsl c n).cells = [.vsl c n] := rfl
@[simp] theorem cells_nilmap : AV.nilmap.cells = [.nilmap] := rfl
@[simp] theorem cells_func (f : Fn) (a b : List AV) : (AV.func f a b).cells = [.func f a b] := rfl
@[simp] theorem cells_nilfunc : AV.nilfunc.cells = [.nilfunc] := rfl
@[simp] theorem cells_iface (t : TypeId) (v : AV) : (AV.iface t v).cells = [.iface t v] := rfl
@[simp] theorem cells_niliface : AV.niliface.cells = [.niliface] := rfl
@[simp] theorem cells_tuple (v : List AV) : (AV.tuple v).cells = [.tuple v] := rfl
theorem next_lt {H : AHeap} (hw : H.Wf) {i : Nat} {x : AObj} (h : H.get i = some x) : i < H.next := (hw i x h).1
@[simp] theorem push_set (H : AHeap) (x y : AObj) : (H.push x).set H.next y = H.push y := by
  refine AHeap.ext' rfl fun i => ?_
  simp only [AHeap.get_set, AHeap.get_push]
  split <;> rfl
@[simp] theorem set_set (H : AHeap) (i : Nat) (x y : AObj) : (H.set i x).set i y = H.set i y := AHeap.set_set H i x y
@[simp] theorem int_beq (a b : Int) : (a == b) = decide (a = b) := by
  rw [Bool.eq_iff_iff]; simp
end Go.Abs

namespace Go.Proofs
open Go Go.Abs
@[simp] theorem Tryz.asize0 : asize Tryz.prog 0 = some 1 := by kernel_rfl
@[simp] theorem Tryz.info0 : Tryz.prog.info? 0 = some Tryz.t0 := by kernel_rfl
@[simp] theorem Tryz.tsize0 : Tryz.t0.size = 1 := by kernel_rfl
@[simp] theorem Tryz.tbytes0 : Tryz.t0.bytes = 0 := by kernel_rfl
@[simp] theorem Tryz.builder0 : builderTy Tryz.prog 0 = false := by kernel_rfl
@[simp] theorem Tryz.azero0 : azero Tryz.prog 0 = some (.tuple []) := by kernel_rfl
@[simp] theorem Tryz.asize1 : asize Tryz.prog 1 = some 1 := by kernel_rfl
@[simp] theorem Tryz.info1 : Tryz.prog.info? 1 = some Tryz.t1 := by kernel_rfl
@[simp] theorem Tryz.tsize1 : Tryz.t1.size = 1 := by kernel_rfl
@[simp] theorem Tryz.tbytes1 : Tryz.t1.bytes = 8 := by kernel_rfl
@[simp] theorem Tryz.builder1 : builderTy Tryz.prog 1 = false := by kernel_rfl
@[simp] theorem Tryz.azero1 : azero Tryz.prog 1 = some (.nilfunc) := by kernel_rfl
@[simp] theorem Tryz.asize2 : asize Tryz.prog 2 = some 1 := by kernel_rfl
@[simp] theorem Tryz.info2 : Tryz.prog.info? 2 = some Tryz.t2 := by kernel_rfl
@[simp] theorem Tryz.tsize2 : Tryz.t2.size = 1 := by kernel_rfl
@[simp] theorem Tryz.tbytes2 : Tryz.t2.bytes = 8 := by kernel_rfl
@[simp] theorem Tryz.builder2 : builderTy Tryz.prog 2 = false := by kernel_rfl
@[simp] theorem Tryz.azero2 : azero Tryz.prog 2 = some (.int .i64 (0)) := by kernel_rfl
@[simp] theorem Tryz.asize3 : asize Tryz.prog 3 = some 1 := by kernel_rfl
@[simp] theorem Tryz.info3 : Tryz.prog.info? 3 = some Tryz.t3 := by kernel_rfl
@[simp] theorem Tryz.tsize3 : Tryz.t3.size = 1 := by kernel_rfl
@[simp] theorem Tryz.tbytes3 : Tryz.t3.bytes = 8 := by kernel_rfl
@[simp] theorem Tryz.builder3 : builderTy Tryz.prog 3 = false := by kernel_rfl
@[simp] theorem Tryz.azero3 : azero Tryz.prog 3 = some (.int .i64 (0)) := by kernel_rfl
@[simp] theorem Tryz.asize4 : asize Tryz.prog 4 = some 1 := by kernel_rfl
@[simp] theorem Tryz.info4 : Tryz.prog.info? 4 = some Tryz.t4 := by kernel_rfl
@[simp] theorem Tryz.tsize4 : Tryz.t4.size = 1 := by kernel_rfl
@[simp] theorem Tryz.tbytes4 : Tryz.t4.bytes = 1 := by kernel_rfl
@[simp] theorem Tryz.builder4 : builderTy Tryz.prog 4 = false := by kernel_rfl
@[simp] theorem Tryz.azero4 : azero Tryz.prog 4 = some (.bool false) := by kernel_rfl
@[simp] theorem Tryz.asize5 : asize Tryz.prog 5 = some 1 := by kernel_rfl
@[simp] theorem Tryz.info5 : Tryz.prog.info? 5 = some Tryz.t5 := by kernel_rfl
@[simp] theorem Tryz.tsize5 : Tryz.t5.size = 1 := by kernel_rfl
@[simp] theorem Tryz.tbytes5 : Tryz.t5.bytes = 1 := by kernel_rfl
@[simp] theorem Tryz.builder5 : builderTy Tryz.prog 5 = false := by kernel_rfl
@[simp] theorem Tryz.azero5 : azero Tryz.prog 5 = some (.int .u8 (0)) := by kernel_rfl
@[simp] theorem Tryz.asize6 : asize Tryz.prog 6 = some 1 := by kernel_rfl
@[simp] theorem Tryz.info6 : Tryz.prog.info? 6 = some Tryz.t6 := by kernel_rfl
@[simp] theorem Tryz.tsize6 : Tryz.t6.size = 1 := by kernel_rfl
@[simp] theorem Tryz.tbytes6 : Tryz.t6.bytes = 1 := by kernel_rfl
@[simp] theorem Tryz.builder6 : builderTy Tryz.prog 6 = false := by kernel_rfl
@[simp] theorem Tryz.azero6 : azero Tryz.prog 6 = some (.int .u8 (0)) := by kernel_rfl
@[simp] theorem Tryz.asize7 : asize Tryz.prog 7 = some 4 := by kernel_rfl
@[simp] theorem Tryz.info7 : Tryz.prog.info? 7 = some Tryz.t7 := by kernel_rfl
@[simp] theorem Tryz.tsize7 : Tryz.t7.size = 4 := by kernel_rfl
@[simp] theorem Tryz.tbytes7 : Tryz.t7.bytes = 24 := by kernel_rfl
@[simp] theorem Tryz.builder7 : builderTy Tryz.prog 7 = false := by kernel_rfl
@[simp] theorem Tryz.azero7 : azero Tryz.prog 7 = some (.agg [.int .i64 (0), .int .i64 (0), .bool false, .int .u8 (0)]) := by kernel_rfl
@[simp] theorem Tryz.asize8 : asize Tryz.prog 8 = some 4 := by kernel_rfl
@[simp] theorem Tryz.info8 : Tryz.prog.info? 8 = some Tryz.t8 := by kernel_rfl
@[simp] theorem Tryz.tsize8 : Tryz.t8.size = 4 := by kernel_rfl
@[simp] theorem Tryz.tbytes8 : Tryz.t8.bytes = 24 := by kernel_rfl
@[simp] theorem Tryz.builder8 : builderTy Tryz.prog 8 = false := by kernel_rfl
@[simp] theorem Tryz.azero8 : azero Tryz.prog 8 = some (.agg [.int .i64 (0), .int .i64 (0), .bool false, .int .u8 (0)]) := by kernel_rfl
@[simp] theorem Tryz.asize9 : asize Tryz.prog 9 = some 1 := by kernel_rfl
@[simp] theorem Tryz.info9 : Tryz.prog.info? 9 = some Tryz.t9 := by kernel_rfl
@[simp] theorem Tryz.tsize9 : Tryz.t9.size = 1 := by kernel_rfl
@[simp] theorem Tryz.tbytes9 : Tryz.t9.bytes = 16 := by kernel_rfl
@[simp] theorem Tryz.builder9 : builderTy Tryz.prog 9 = false := by kernel_rfl
@[simp] theorem Tryz.azero9 : azero Tryz.prog 9 = some (.str []) := by kernel_rfl
@[simp] theorem Tryz.asize10 : asize Tryz.prog 10 = some 1 := by kernel_rfl
@[simp] theorem Tryz.info10 : Tryz.prog.info? 10 = some Tryz.t10 := by kernel_rfl
@[simp] theorem Tryz.tsize10 : Tryz.t10.size = 1 := by kernel_rfl
@[simp] theorem Tryz.tbytes10 : Tryz.t10.bytes = 16 := by kernel_rfl
@[simp] theorem Tryz.builder10 : builderTy Tryz.prog 10 = false := by kernel_rfl
@[simp] theorem Tryz.azero10 : azero Tryz.prog 10 = some (.str []) := by kernel_rfl
@[simp] theorem Tryz.asize11 : asize Tryz.prog 11 = some 1 := by kernel_rfl
@[simp] theorem Tryz.info11 : Tryz.prog.info? 11 = some Tryz.t11 := by kernel_rfl
@[simp] theorem Tryz.tsize11 : Tryz.t11.size = 1 := by kernel_rfl
@[simp] theorem Tryz.tbytes11 : Tryz.t11.bytes = 16 := by kernel_rfl
@[simp] theorem Tryz.builder11 : builderTy Tryz.prog 11 = false := by kernel_rfl
@[simp] theorem Tryz.azero11 : azero Tryz.prog 11 = some (.str []) := by kernel_rfl
@[simp] theorem Tryz.asize12 : asize Tryz.prog 12 = some 1 := by kernel_rfl
@[simp] theorem Tryz.info12 : Tryz.prog.info? 12 = some Tryz.t12 := by kernel_rfl
@[simp] theorem Tryz.tsize12 : Tryz.t12.size = 1 := by kernel_rfl
@[simp] theorem Tryz.tbytes12 : Tryz.t12.bytes = 8 := by kernel_rfl
@[simp] theorem Tryz.builder12 : builderTy Tryz.prog 12 = false := by kernel_rfl
@[simp] theorem Tryz.azero12 : azero Tryz.prog 12 = some (.int .u64 (0)) := by kernel_rfl
@[simp] theorem Tryz.asize13 : asize Tryz.prog 13 = some 2 := by kernel_rfl
@[simp] theorem Tryz.info13 : Tryz.prog.info? 13 = some Tryz.t13 := by kernel_rfl
@[simp] theorem Tryz.tsize13 : Tryz.t13.size = 2 := by kernel_rfl
@[simp] theorem Tryz.tbytes13 : Tryz.t13.bytes = 24 := by kernel_rfl
@[simp] theorem Tryz.builder13 : builderTy Tryz.prog 13 = false := by kernel_rfl
@[simp] theorem Tryz.azero13 : azero Tryz.prog 13 = some (.agg [.str [], .int .u64 (0)]) := by kernel_rfl
@[simp] theorem Tryz.asize14 : asize Tryz.prog 14 = some 2 := by kernel_rfl
@[simp] theorem Tryz.info14 : Tryz.prog.info? 14 = some Tryz.t14 := by kernel_rfl
@[simp] theorem Tryz.tsize14 : Tryz.t14.size = 2 := by kernel_rfl
@[simp] theorem Tryz.tbytes14 : Tryz.t14.bytes = 24 := by kernel_rfl
@[simp] theorem Tryz.builder14 : builderTy Tryz.prog 14 = false := by kernel_rfl
@[simp] theorem Tryz.azero14 : azero Tryz.prog 14 = some (.agg [.str [], .int .u64 (0)]) := by kernel_rfl
@[simp] theorem Tryz.asize15 : asize Tryz.prog 15 = some 1 := by kernel_rfl
@[simp] theorem Tryz.info15 : Tryz.prog.info? 15 = some Tryz.t15 := by kernel_rfl
@[simp] theorem Tryz.tsize15 : Tryz.t15.size = 1 := by kernel_rfl
@[simp] theorem Tryz.tbytes15 : Tryz.t15.bytes = 8 := by kernel_rfl
@[simp] theorem Tryz.builder15 : builderTy Tryz.prog 15 = false := by kernel_rfl
@[simp] theorem Tryz.azero15 : azero Tryz.prog 15 = some (.nilptr) := by kernel_rfl
@[simp] theorem Tryz.asize16 : asize Tryz.prog 16 = some 1 := by kernel_rfl
@[simp] theorem Tryz.info16 : Tryz.prog.info? 16 = some Tryz.t16 := by kernel_rfl
@[simp] theorem Tryz.tsize16 : Tryz.t16.size = 1 := by kernel_rfl
@[simp] theorem Tryz.tbytes16 : Tryz.t16.bytes = 8 := by kernel_rfl
@[simp] theorem Tryz.builder16 : builderTy Tryz.prog 16 = false := by kernel_rfl
@[simp] theorem Tryz.azero16 : azero Tryz.prog 16 = some (.nilptr) := by kernel_rfl
@[simp] theorem Tryz.asize17 : asize Tryz.prog 17 = some 1 := by kernel_rfl
@[simp] theorem Tryz.info17 : Tryz.prog.info? 17 = some Tryz.t17 := by kernel_rfl
@[simp] theorem Tryz.tsize17 : Tryz.t17.size = 1 := by kernel_rfl
@[simp] theorem Tryz.tbytes17 : Tryz.t17.bytes = 8 := by kernel_rfl
@[simp] theorem Tryz.builder17 : builderTy Tryz.prog 17 = false := by kernel_rfl
@[simp] theorem Tryz.azero17 : azero Tryz.prog 17 = some (.nilptr) := by kernel_rfl
@[simp] theorem Tryz.asize18 : asize Tryz.prog 18 = some 1 := by kernel_rfl
@[simp] theorem Tryz.info18 : Tryz.prog.info? 18 = some Tryz.t18 := by kernel_rfl
@[simp] theorem Tryz.tsize18 : Tryz.t18.size = 1 := by kernel_rfl
@[simp] theorem Tryz.tbytes18 : Tryz.t18.bytes = 8 := by kernel_rfl
@[simp] theorem Tryz.builder18 : builderTy Tryz.prog 18 = false := by kernel_rfl
@[simp] theorem Tryz.azero18 : azero Tryz.prog 18 = some (.agg [.nilptr]) := by kernel_rfl
@[simp] theorem Tryz.asize19 : asize Tryz.prog 19 = some 1 := by kernel_rfl
@[simp] theorem Tryz.info19 : Tryz.prog.info? 19 = some Tryz.t19 := by kernel_rfl
@[simp] theorem Tryz.tsize19 : Tryz.t19.size = 1 := by kernel_rfl
@[simp] theorem Tryz.tbytes19 : Tryz.t19.bytes = 8 := by kernel_rfl
@[simp] theorem Tryz.builder19 : builderTy Tryz.prog 19 = false := by kernel_rfl
@[simp] theorem Tryz.azero19 : azero Tryz.prog 19 = some (.agg [.nilptr]) := by kernel_rfl
@[simp] theorem Tryz.asize20 : asize Tryz.prog 20 = some 1 := by kernel_rfl
@[simp] theorem Tryz.info20 : Tryz.prog.info? 20 = some Tryz.t20 := by kernel_rfl
@[simp] theorem Tryz.tsize20 : Tryz.t20.size = 1 := by kernel_rfl
@[simp] theorem Tryz.tbytes20 : Tryz.t20.bytes = 16 := by kernel_rfl
@[simp] theorem Tryz.builder20 : builderTy Tryz.prog 20 = false := by kernel_rfl
@[simp] theorem Tryz.azero20 : azero Tryz.prog 20 = some (.niliface) := by kernel_rfl
@[simp] theorem Tryz.asize21 : asize Tryz.prog 21 = some 1 := by kernel_rfl
@[simp] theorem Tryz.info21 : Tryz.prog.info? 21 = some Tryz.t21 := by kernel_rfl
@[simp] theorem Tryz.tsize21 : Tryz.t21.size = 1 := by kernel_rfl
@[simp] theorem Tryz.tbytes21 : Tryz.t21.bytes = 4 := by kernel_rfl
@[simp] theorem Tryz.builder21 : builderTy Tryz.prog 21 = false := by kernel_rfl
@[simp] theorem Tryz.azero21 : azero Tryz.prog 21 = some (.int .i32 (0)) := by kernel_rfl
@[simp] theorem Tryz.asize22 : asize Tryz.prog 22 = some 1 := by kernel_rfl
@[simp] theorem Tryz.info22 : Tryz.prog.info? 22 = some Tryz.t22 := by kernel_rfl
@[simp] theorem Tryz.tsize22 : Tryz.t22.size = 1 := by kernel_rfl
@[simp] theorem Tryz.tbytes22 : Tryz.t22.bytes = 8 := by kernel_rfl
@[simp] theorem Tryz.builder22 : builderTy Tryz.prog 22 = false := by kernel_rfl
@[simp] theorem Tryz.azero22 : azero Tryz.prog 22 = some (.nilfunc) := by kernel_rfl
@[simp] theorem Tryz.asize23 : asize Tryz.prog 23 = some 1 := by kernel_rfl
@[simp] theorem Tryz.info23 : Tryz.prog.info? 23 = some Tryz.t23 := by kernel_rfl
@[simp] theorem Tryz.tsize23 : Tryz.t23.size = 1 := by kernel_rfl
@[simp] theorem Tryz.tbytes23 : Tryz.t23.bytes = 24 := by kernel_rfl
@[simp] theorem Tryz.builder23 : builderTy Tryz.prog 23 = false := by kernel_rfl
@[simp] theorem Tryz.azero23 : azero Tryz.prog 23 = some (.nilsl) := by kernel_rfl
@[simp] theorem Tryz.asize24 : asize Tryz.prog 24 = some 1 := by kernel_rfl
@[simp] theorem Tryz.info24 : Tryz.prog.info? 24 = some Tryz.t24 := by kernel_rfl
@[simp] theorem Tryz.tsize24 : Tryz.t24.size = 1 := by kernel_rfl
@[simp] theorem Tryz.tbytes24 : Tryz.t24.bytes = 24 := by kernel_rfl
@[simp] theorem Tryz.builder24 : builderTy Tryz.prog 24 = false := by kernel_rfl
@[simp] theorem Tryz.azero24 : azero Tryz.prog 24 = some (.nilsl) := by kernel_rfl
@[simp] theorem Tryz.asize25 : asize Tryz.prog 25 = some 1 := by kernel_rfl
@[simp] theorem Tryz.info25 : Tryz.prog.info? 25 = some Tryz.t25 := by kernel_rfl
@[simp] theorem Tryz.tsize25 : Tryz.t25.size = 1 := by kernel_rfl
@[simp] theorem Tryz.tbytes25 : Tryz.t25.bytes = 8 := by kernel_rfl
@[simp] theorem Tryz.builder25 : builderTy Tryz.prog 25 = false := by kernel_rfl
@[simp] theorem Tryz.azero25 : azero Tryz.prog 25 = some (.int .i64 (0)) := by kernel_rfl
@[simp] theorem Tryz.asize26 : asize Tryz.prog 26 = some 2 := by kernel_rfl
@[simp] theorem Tryz.info26 : Tryz.prog.info? 26 = some Tryz.t26 := by kernel_rfl
@[simp] theorem Tryz.tsize26 : Tryz.t26.size = 2 := by kernel_rfl
@[simp] theorem Tryz.tbytes26 : Tryz.t26.bytes = 16 := by kernel_rfl
@[simp] theorem Tryz.builder26 : builderTy Tryz.prog 26 = false := by kernel_rfl
@[simp] theorem Tryz.azero26 : azero Tryz.prog 26 = some (.agg [.int .i64 (0), .int .i64 (0)]) := by kernel_rfl
@[simp] theorem Tryz.asize27 : asize Tryz.prog 27 = some 2 := by kernel_rfl
@[simp] theorem Tryz.info27 : Tryz.prog.info? 27 = some Tryz.t27 := by kernel_rfl
@[simp] theorem Tryz.tsize27 : Tryz.t27.size = 2 := by kernel_rfl
@[simp] theorem Tryz.tbytes27 : Tryz.t27.bytes = 16 := by kernel_rfl
@[simp] theorem Tryz.builder27 : builderTy Tryz.prog 27 = false := by kernel_rfl
@[simp] theorem Tryz.azero27 : azero Tryz.prog 27 = some (.agg [.int .i64 (0), .int .i64 (0)]) := by kernel_rfl
@[simp] theorem Tryz.asize28 : asize Tryz.prog 28 = some 1 := by kernel_rfl
@[simp] theorem Tryz.info28 : Tryz.prog.info? 28 = some Tryz.t28 := by kernel_rfl
@[simp] theorem Tryz.tsize28 : Tryz.t28.size = 1 := by kernel_rfl
@[simp] theorem Tryz.tbytes28 : Tryz.t28.bytes = 0 := by kernel_rfl
@[simp] theorem Tryz.builder28 : builderTy Tryz.prog 28 = false := by kernel_rfl
@[simp] theorem Tryz.asize30 : asize Tryz.prog 30 = some 1 := by kernel_rfl
@[simp] theorem Tryz.info30 : Tryz.prog.info? 30 = some Tryz.t30 := by kernel_rfl
@[simp] theorem Tryz.tsize30 : Tryz.t30.size = 1 := by kernel_rfl
@[simp] theorem Tryz.tbytes30 : Tryz.t30.bytes = 24 := by kernel_rfl
@[simp] theorem Tryz.builder30 : builderTy Tryz.prog 30 = false := by kernel_rfl
@[simp] theorem Tryz.azero30 : azero Tryz.prog 30 = some (.nilsl) := by kernel_rfl
@[simp] theorem Tryz.asize31 : asize Tryz.prog 31 = some 1 := by kernel_rfl
@[simp] theorem Tryz.info31 : Tryz.prog.info? 31 = some Tryz.t31 := by kernel_rfl
@[simp] theorem Tryz.tsize31 : Tryz.t31.size = 1 := by kernel_rfl
@[simp] theorem Tryz.tbytes31 : Tryz.t31.bytes = 24 := by kernel_rfl
@[simp] theorem Tryz.builder31 : builderTy Tryz.prog 31 = false := by kernel_rfl
@[simp] theorem Tryz.azero31 : azero Tryz.prog 31 = some (.nilsl) := by kernel_rfl
@[simp] theorem Tryz.asize32 : asize Tryz.prog 32 = some 6 := by kernel_rfl
@[simp] theorem Tryz.info32 : Tryz.prog.info? 32 = some Tryz.t32 := by kernel_rfl
@[simp] theorem Tryz.tsize32 : Tryz.t32.size = 6 := by kernel_rfl
@[simp] theorem Tryz.tbytes32 : Tryz.t32.bytes = 120 := by kernel_rfl
@[simp] theorem Tryz.builder32 : builderTy Tryz.prog 32 = false := by kernel_rfl
@[simp] theorem Tryz.azero32 : azero Tryz.prog 32 = some (.agg [.str [], .nilsl, .nilsl, .nilsl, .nilsl, .int .i64 (0)]) := by kernel_rfl
@[simp] theorem Tryz.asize33 : asize Tryz.prog 33 = some 6 := by kernel_rfl
@[simp] theorem Tryz.info33 : Tryz.prog.info? 33 = some Tryz.t33 := by kernel_rfl
@[simp] theorem Tryz.tsize33 : Tryz.t33.size = 6 := by kernel_rfl
@[simp] theorem Tryz.tbytes33 : Tryz.t33.bytes = 120 := by kernel_rfl
@[simp] theorem Tryz.builder33 : builderTy Tryz.prog 33 = false := by kernel_rfl
@[simp] theorem Tryz.azero33 : azero Tryz.prog 33 = some (.agg [.str [], .nilsl, .nilsl, .nilsl, .nilsl, .int .i64 (0)]) := by kernel_rfl
@[simp] theorem Tryz.asize36 : asize Tryz.prog 36 = some 1 := by kernel_rfl
@[simp] theorem Tryz.info36 : Tryz.prog.info? 36 = some Tryz.t36 := by kernel_rfl
@[simp] theorem Tryz.tsize36 : Tryz.t36.size = 1 := by kernel_rfl
@[simp] theorem Tryz.tbytes36 : Tryz.t36.bytes = 24 := by kernel_rfl
@[simp] theorem Tryz.builder36 : builderTy Tryz.prog 36 = false := by kernel_rfl
@[simp] theorem Tryz.azero36 : azero Tryz.prog 36 = some (.nilsl) := by kernel_rfl
@[simp] theorem Tryz.asize37 : asize Tryz.prog 37 = some 1 := by kernel_rfl
@[simp] theorem Tryz.info37 : Tryz.prog.info? 37 = some Tryz.t37 := by kernel_rfl
@[simp] theorem Tryz.tsize37 : Tryz.t37.size = 1 := by kernel_rfl
@[simp] theorem Tryz.tbytes37 : Tryz.t37.bytes = 24 := by kernel_rfl
@[simp] theorem Tryz.builder37 : builderTy Tryz.prog 37 = false := by kernel_rfl
@[simp] theorem Tryz.azero37 : azero Tryz.prog 37 = some (.nilsl) := by kernel_rfl
@[simp] theorem Tryz.asize38 : asize Tryz.prog 38 = some 1 := by kernel_rfl
@[simp] theorem Tryz.info38 : Tryz.prog.info? 38 = some Tryz.t38 := by kernel_rfl
@[simp] theorem Tryz.tsize38 : Tryz.t38.size = 1 := by kernel_rfl
@[simp] theorem Tryz.tbytes38 : Tryz.t38.bytes = 24 := by kernel_rfl
@[simp] theorem Tryz.builder38 : builderTy Tryz.prog 38 = false := by kernel_rfl
@[simp] theorem Tryz.azero38 : azero Tryz.prog 38 = some (.nilsl) := by kernel_rfl
@[simp] theorem Tryz.asize39 : asize Tryz.prog 39 = some 6 := by kernel_rfl
@[simp] theorem Tryz.info39 : Tryz.prog.info? 39 = some Tryz.t39 := by kernel_rfl
@[simp] theorem Tryz.tsize39 : Tryz.t39.size = 6 := by kernel_rfl
@[simp] theorem Tryz.tbytes39 : Tryz.t39.bytes = 144 := by kernel_rfl
@[simp] theorem Tryz.builder39 : builderTy Tryz.prog 39 = false := by kernel_rfl
@[simp] theorem Tryz.azero39 : azero Tryz.prog 39 = some (.agg [.nilsl, .nilsl, .nilsl, .nilsl, .nilsl, .nilsl]) := by kernel_rfl
@[simp] theorem Tryz.asize40 : asize Tryz.prog 40 = some 6 := by kernel_rfl
@[simp] theorem Tryz.info40 : Tryz.prog.info? 40 = some Tryz.t40 := by kernel_rfl
@[simp] theorem Tryz.tsize40 : Tryz.t40.size = 6 := by kernel_rfl
@[simp] theorem Tryz.tbytes40 : Tryz.t40.bytes = 144 := by kernel_rfl
@[simp] theorem Tryz.builder40 : builderTy Tryz.prog 40 = false := by kernel_rfl
@[simp] theorem Tryz.azero40 : azero Tryz.prog 40 = some (.agg [.nilsl, .nilsl, .nilsl, .nilsl, .nilsl, .nilsl]) := by kernel_rfl
@[simp] theorem Tryz.asize43 : asize Tryz.prog 43 = some 1 := by kernel_rfl
@[simp] theorem Tryz.info43 : Tryz.prog.info? 43 = some Tryz.t43 := by kernel_rfl
@[simp] theorem Tryz.tsize43 : Tryz.t43.size = 1 := by kernel_rfl
@[simp] theorem Tryz.tbytes43 : Tryz.t43.bytes = 0 := by kernel_rfl
@[simp] theorem Tryz.builder43 : builderTy Tryz.prog 43 = false := by kernel_rfl
@[simp] theorem Tryz.asize44 : asize Tryz.prog 44 = some 1 := by kernel_rfl
@[simp] theorem Tryz.info44 : Tryz.prog.info? 44 = some Tryz.t44 := by kernel_rfl
@[simp] theorem Tryz.tsize44 : Tryz.t44.size = 1 := by kernel_rfl
@[simp] theorem Tryz.tbytes44 : Tryz.t44.bytes = 8 := by kernel_rfl
@[simp] theorem Tryz.builder44 : builderTy Tryz.prog 44 = false := by kernel_rfl
@[simp] theorem Tryz.azero44 : azero Tryz.prog 44 = some (.nilfunc) := by kernel_rfl
@[simp] theorem Tryz.asize45 : asize Tryz.prog 45 = some 1 := by kernel_rfl
@[simp] theorem Tryz.info45 : Tryz.prog.info? 45 = some Tryz.t45 := by kernel_rfl
@[simp] theorem Tryz.tsize45 : Tryz.t45.size = 1 := by kernel_rfl
@[simp] theorem Tryz.tbytes45 : Tryz.t45.bytes = 8 := by kernel_rfl
@[simp] theorem Tryz.builder45 : builderTy Tryz.prog 45 = false := by kernel_rfl
@[simp] theorem Tryz.azero45 : azero Tryz.prog 45 = some (.nilfunc) := by kernel_rfl
@[simp] theorem Tryz.asize46 : asize Tryz.prog 46 = some 1 := by kernel_rfl
@[simp] theorem Tryz.info46 : Tryz.prog.info? 46 = some Tryz.t46 := by kernel_rfl
@[simp] theorem Tryz.tsize46 : Tryz.t46.size = 1 := by kernel_rfl
@[simp] theorem Tryz.tbytes46 : Tryz.t46.bytes = 24 := by kernel_rfl
@[simp] theorem Tryz.builder46 : builderTy Tryz.prog 46 = false := by kernel_rfl
@[simp] theorem Tryz.azero46 : azero Tryz.prog 46 = some (.nilsl) := by kernel_rfl
@[simp] theorem Tryz.asize47 : asize Tryz.prog 47 = some 5 := by kernel_rfl
@[simp] theorem Tryz.info47 : Tryz.prog.info? 47 = some Tryz.t47 := by kernel_rfl
@[simp] theorem Tryz.tsize47 : Tryz.t47.size = 5 := by kernel_rfl
@[simp] theorem Tryz.tbytes47 : Tryz.t47.bytes = 72 := by kernel_rfl
@[simp] theorem Tryz.builder47 : builderTy Tryz.prog 47 = false := by kernel_rfl
@[simp] theorem Tryz.azero47 : azero Tryz.prog 47 = some (.agg [.str [], .str [], .int .i64 (0), .int .i64 (0), .nilsl]) := by kernel_rfl
@[simp] theorem Tryz.asize48 : asize Tryz.prog 48 = some 5 := by kernel_rfl
@[simp] theorem Tryz.info48 : Tryz.prog.info? 48 = some Tryz.t48 := by kernel_rfl
@[simp] theorem Tryz.tsize48 : Tryz.t48.size = 5 := by kernel_rfl
@[simp] theorem Tryz.tbytes48 : Tryz.t48.bytes = 72 := by kernel_rfl
@[simp] theorem Tryz.builder48 : builderTy Tryz.prog 48 = false := by kernel_rfl
@[simp] theorem Tryz.azero48 : azero Tryz.prog 48 = some (.agg [.str [], .str [], .int .i64 (0), .int .i64 (0), .nilsl]) := by kernel_rfl
@[simp] theorem Tryz.asize50 : asize Tryz.prog 50 = some 7 := by kernel_rfl
@[simp] theorem Tryz.info50 : Tryz.prog.info? 50 = some Tryz.t50 := by kernel_rfl
@[simp] theorem Tryz.tsize50 : Tryz.t50.size = 7 := by kernel_rfl
@[simp] theorem Tryz.tbytes50 : Tryz.t50.bytes = 96 := by kernel_rfl
@[simp] theorem Tryz.builder50 : builderTy Tryz.prog 50 = false := by kernel_rfl
@[simp] theorem Tryz.azero50 : azero Tryz.prog 50 = some (.agg [.str [], .str [], .str [], .int .i64 (0), .int .i64 (0), .nilsl, .int .i64 (0)]) := by kernel_rfl
@[simp] theorem Tryz.asize51 : asize Tryz.prog 51 = some 7 := by kernel_rfl
@[simp] theorem Tryz.info51 : Tryz.prog.info? 51 = some Tryz.t51 := by kernel_rfl
@[simp] theorem Tryz.tsize51 : Tryz.t51.size = 7 := by kernel_rfl
@[simp] theorem Tryz.tbytes51 : Tryz.t51.bytes = 96 := by kernel_rfl
@[simp] theorem Tryz.builder51 : builderTy Tryz.prog 51 = false := by kernel_rfl
@[simp] theorem Tryz.azero51 : azero Tryz.prog 51 = some (.agg [.str [], .str [], .str [], .int .i64 (0), .int .i64 (0), .nilsl, .int .i64 (0)]) := by kernel_rfl
@[simp] theorem Tryz.asize56 : asize Tryz.prog 56 = some 1 := by kernel_rfl
@[simp] theorem Tryz.info56 : Tryz.prog.info? 56 = some Tryz.t56 := by kernel_rfl
@[simp] theorem Tryz.tsize56 : Tryz.t56.size = 1 := by kernel_rfl
@[simp] theorem Tryz.tbytes56 : Tryz.t56.bytes = 24 := by kernel_rfl
@[simp] theorem Tryz.builder56 : builderTy Tryz.prog 56 = false := by kernel_rfl
@[simp] theorem Tryz.azero56 : azero Tryz.prog 56 = some (.nilsl) := by kernel_rfl
@[simp] theorem Tryz.asize57 : asize Tryz.prog 57 = some 1 := by kernel_rfl
@[simp] theorem Tryz.info57 : Tryz.prog.info? 57 = some Tryz.t57 := by kernel_rfl
@[simp] theorem Tryz.tsize57 : Tryz.t57.size = 1 := by kernel_rfl
@[simp] theorem Tryz.tbytes57 : Tryz.t57.bytes = 0 := by kernel_rfl
@[simp] theorem Tryz.builder57 : builderTy Tryz.prog 57 = false := by kernel_rfl
@[simp] theorem Tryz.azero57 : azero Tryz.prog 57 = some (.tuple [.nilsl, .int .i64 (0)]) := by kernel_rfl
@[simp] theorem Tryz.asize64 : asize Tryz.prog 64 = some 1 := by kernel_rfl
@[simp] theorem Tryz.info64 : Tryz.prog.info? 64 = some Tryz.t64 := by kernel_rfl
@[simp] theorem Tryz.tsize64 : Tryz.t64.size = 1 := by kernel_rfl
@[simp] theorem Tryz.tbytes64 : Tryz.t64.bytes = 24 := by kernel_rfl
@[simp] theorem Tryz.builder64 : builderTy Tryz.prog 64 = false := by kernel_rfl
@[simp] theorem Tryz.azero64 : azero Tryz.prog 64 = some (.nilsl) := by kernel_rfl
@[simp] theorem Tryz.asize65 : asize Tryz.prog 65 = some 1 := by kernel_rfl
@[simp] theorem Tryz.info65 : Tryz.prog.info? 65 = some Tryz.t65 := by kernel_rfl
@[simp] theorem Tryz.tsize65 : Tryz.t65.size = 1 := by kernel_rfl
@[simp] theorem Tryz.tbytes65 : Tryz.t65.bytes = 0 := by kernel_rfl
@[simp] theorem Tryz.builder65 : builderTy Tryz.prog 65 = false := by kernel_rfl
@[simp] theorem Tryz.asize67 : asize Tryz.prog 67 = some 1 := by kernel_rfl
@[simp] theorem Tryz.info67 : Tryz.prog.info? 67 = some Tryz.t67 := by kernel_rfl
@[simp] theorem Tryz.tsize67 : Tryz.t67.size = 1 := by kernel_rfl
@[simp] theorem Tryz.tbytes67 : Tryz.t67.bytes = 8 := by kernel_rfl
@[simp] theorem Tryz.builder67 : builderTy Tryz.prog 67 = false := by kernel_rfl
@[simp] theorem Tryz.azero67 : azero Tryz.prog 67 = some (.nilptr) := by kernel_rfl
@[simp] theorem Tryz.asize68 : asize Tryz.prog 68 = some 6 := by kernel_rfl
@[simp] theorem Tryz.info68 : Tryz.prog.info? 68 = some Tryz.t68 := by kernel_rfl
@[simp] theorem Tryz.tsize68 : Tryz.t68.size = 6 := by kernel_rfl
@[simp] theorem Tryz.tbytes68 : Tryz.t68.bytes = 64 := by kernel_rfl
@[simp] theorem Tryz.builder68 : builderTy Tryz.prog 68 = false := by kernel_rfl
@[simp] theorem Tryz.azero68 : azero Tryz.prog 68 = some (.agg [.nilsl, .int .i64 (0), .int .i64 (0), .int .i64 (0), .int .i64 (0), .int .i64 (0)]) := by kernel_rfl
@[simp] theorem Tryz.asize69 : asize Tryz.prog 69 = some 6 := by kernel_rfl
@[simp] theorem Tryz.info69 : Tryz.prog.info? 69 = some Tryz.t69 := by kernel_rfl
@[simp] theorem Tryz.tsize69 : Tryz.t69.size = 6 := by kernel_rfl
@[simp] theorem Tryz.tbytes69 : Tryz.t69.bytes = 64 := by kernel_rfl
@[simp] theorem Tryz.builder69 : builderTy Tryz.prog 69 = false := by kernel_rfl
@[simp] theorem Tryz.azero69 : azero Tryz.prog 69 = some (.agg [.nilsl, .int .i64 (0), .int .i64 (0), .int .i64 (0), .int .i64 (0), .int .i64 (0)]) := by kernel_rfl
@[simp] theorem Tryz.asize70 : asize Tryz.prog 70 = some 4 := by kernel_rfl
@[simp] theorem Tryz.info70 : Tryz.prog.info? 70 = some Tryz.t70 := by kernel_rfl
@[simp] theorem Tryz.tsize70 : Tryz.t70.size = 4 := by kernel_rfl
@[simp] theorem Tryz.tbytes70 : Tryz.t70.bytes = 40 := by kernel_rfl
@[simp] theorem Tryz.builder70 : builderTy Tryz.prog 70 = false := by kernel_rfl
@[simp] theorem Tryz.azero70 : azero Tryz.prog 70 = some (.agg [.int .i64 (0), .str [], .int .i64 (0), .int .i64 (0)]) := by kernel_rfl
@[simp] theorem Tryz.asize71 : asize Tryz.prog 71 = some 4 := by kernel_rfl
@[simp] theorem Tryz.info71 : Tryz.prog.info? 71 = some Tryz.t71 := by kernel_rfl
@[simp] theorem Tryz.tsize71 : Tryz.t71.size = 4 := by kernel_rfl
@[simp] theorem Tryz.tbytes71 : Tryz.t71.bytes = 40 := by kernel_rfl
@[simp] theorem Tryz.builder71 : builderTy Tryz.prog 71 = false := by kernel_rfl
@[simp] theorem Tryz.azero71 : azero Tryz.prog 71 = some (.agg [.int .i64 (0), .str [], .int .i64 (0), .int .i64 (0)]) := by kernel_rfl
@[simp] theorem Tryz.asize72 : asize Tryz.prog 72 = some 1 := by kernel_rfl
@[simp] theorem Tryz.info72 : Tryz.prog.info? 72 = some Tryz.t72 := by kernel_rfl
@[simp] theorem Tryz.tsize72 : Tryz.t72.size = 1 := by kernel_rfl
@[simp] theorem Tryz.tbytes72 : Tryz.t72.bytes = 8 := by kernel_rfl
@[simp] theorem Tryz.builder72 : builderTy Tryz.prog 72 = false := by kernel_rfl
@[simp] theorem Tryz.azero72 : azero Tryz.prog 72 = some (.nilfunc) := by kernel_rfl
@[simp] theorem Tryz.asize85 : asize Tryz.prog 85 = some 1 := by kernel_rfl
@[simp] theorem Tryz.info85 : Tryz.prog.info? 85 = some Tryz.t85 := by kernel_rfl
@[simp] theorem Tryz.tsize85 : Tryz.t85.size = 1 := by kernel_rfl
@[simp] theorem Tryz.tbytes85 : Tryz.t85.bytes = 8 := by kernel_rfl
@[simp] theorem Tryz.builder85 : builderTy Tryz.prog 85 = false := by kernel_rfl
@[simp] theorem Tryz.azero85 : azero Tryz.prog 85 = some (.int .i64 (0)) := by kernel_rfl
@[simp] theorem Tryz.asize88 : asize Tryz.prog 88 = some 1 := by kernel_rfl
@[simp] theorem Tryz.info88 : Tryz.prog.info? 88 = some Tryz.t88 := by kernel_rfl
@[simp] theorem Tryz.tsize88 : Tryz.t88.size = 1 := by kernel_rfl
@[simp] theorem Tryz.tbytes88 : Tryz.t88.bytes = 8 := by kernel_rfl
@[simp] theorem Tryz.builder88 : builderTy Tryz.prog 88 = false := by kernel_rfl
@[simp] theorem Tryz.azero88 : azero Tryz.prog 88 = some (.nilfunc) := by kernel_rfl
@[simp] theorem Tryz.asize90 : asize Tryz.prog 90 = some 4 := by kernel_rfl
@[simp] theorem Tryz.info90 : Tryz.prog.info? 90 = some Tryz.t90 := by kernel_rfl
@[simp] theorem Tryz.tsize90 : Tryz.t90.size = 4 := by kernel_rfl
@[simp] theorem Tryz.tbytes90 : Tryz.t90.bytes = 32 := by kernel_rfl
@[simp] theorem Tryz.builder90 : builderTy Tryz.prog 90 = false := by kernel_rfl
@[simp] theorem Tryz.azero90 : azero Tryz.prog 90 = some (.agg [.int .i64 (0), .int .i64 (0), .int .i64 (0), .int .i64 (0)]) := by kernel_rfl
@[simp] theorem Tryz.asize91 : asize Tryz.prog 91 = some 4 := by kernel_rfl
@[simp] theorem Tryz.info91 : Tryz.prog.info? 91 = some Tryz.t91 := by kernel_rfl
@[simp] theorem Tryz.tsize91 : Tryz.t91.size = 4 := by kernel_rfl
@[simp] theorem Tryz.tbytes91 : Tryz.t91.bytes = 32 := by kernel_rfl
@[simp] theorem Tryz.builder91 : builderTy Tryz.prog 91 = false := by kernel_rfl
@[simp] theorem Tryz.azero91 : azero Tryz.prog 91 = some (.agg [.int .i64 (0), .int .i64 (0), .int .i64 (0), .int .i64 (0)]) := by kernel_rfl
@[simp] theorem Tryz.asize93 : asize Tryz.prog 93 = some 1 := by kernel_rfl
@[simp] theorem Tryz.info93 : Tryz.prog.info? 93 = some Tryz.t93 := by kernel_rfl
@[simp] theorem Tryz.tsize93 : Tryz.t93.size = 1 := by kernel_rfl
@[simp] theorem Tryz.tbytes93 : Tryz.t93.bytes = 4 := by kernel_rfl
@[simp] theorem Tryz.builder93 : builderTy Tryz.prog 93 = false := by kernel_rfl
@[simp] theorem Tryz.azero93 : azero Tryz.prog 93 = some (.int .u32 (0)) := by kernel_rfl
@[simp] theorem Tryz.asize95 : asize Tryz.prog 95 = some 1 := by kernel_rfl
@[simp] theorem Tryz.info95 : Tryz.prog.info? 95 = some Tryz.t95 := by kernel_rfl
@[simp] theorem Tryz.tsize95 : Tryz.t95.size = 1 := by kernel_rfl
@[simp] theorem Tryz.tbytes95 : Tryz.t95.bytes = 8 := by kernel_rfl
@[simp] theorem Tryz.builder95 : builderTy Tryz.prog 95 = false := by kernel_rfl
@[simp] theorem Tryz.azero95 : azero Tryz.prog 95 = some (.int .u64 (0)) := by kernel_rfl
@[simp] theorem Tryz.asize96 : asize Tryz.prog 96 = some 1 := by kernel_rfl
@[simp] theorem Tryz.info96 : Tryz.prog.info? 96 = some Tryz.t96 := by kernel_rfl
@[simp] theorem Tryz.tsize96 : Tryz.t96.size = 1 := by kernel_rfl
@[simp] theorem Tryz.tbytes96 : Tryz.t96.bytes = 8 := by kernel_rfl
@[simp] theorem Tryz.builder96 : builderTy Tryz.prog 96 = false := by kernel_rfl
@[simp] theorem Tryz.azero96 : azero Tryz.prog 96 = some (.nilfunc) := by kernel_rfl
@[simp] theorem Tryz.asize97 : asize Tryz.prog 97 = some 1 := by kernel_rfl
@[simp] theorem Tryz.info97 : Tryz.prog.info? 97 = some Tryz.t97 := by kernel_rfl
@[simp] theorem Tryz.tsize97 : Tryz.t97.size = 1 := by kernel_rfl
@[simp] theorem Tryz.tbytes97 : Tryz.t97.bytes = 8 := by kernel_rfl
@[simp] theorem Tryz.builder97 : builderTy Tryz.prog 97 = false := by kernel_rfl
@[simp] theorem Tryz.azero97 : azero Tryz.prog 97 = some (.nilptr) := by kernel_rfl
@[simp] theorem Tryz.asize98 : asize Tryz.prog 98 = some 4 := by kernel_rfl
@[simp] theorem Tryz.info98 : Tryz.prog.info? 98 = some Tryz.t98 := by kernel_rfl
@[simp] theorem Tryz.tsize98 : Tryz.t98.size = 4 := by kernel_rfl
@[simp] theorem Tryz.tbytes98 : Tryz.t98.bytes = 96 := by kernel_rfl
@[simp] theorem Tryz.builder98 : builderTy Tryz.prog 98 = false := by kernel_rfl
@[simp] theorem Tryz.azero98 : azero Tryz.prog 98 = some (.agg [.nilsl, .nilsl, .nilsl, .nilsl]) := by kernel_rfl
@[simp] theorem Tryz.asize99 : asize Tryz.prog 99 = some 4 := by kernel_rfl
@[simp] theorem Tryz.info99 : Tryz.prog.info? 99 = some Tryz.t99 := by kernel_rfl
@[simp] theorem Tryz.tsize99 : Tryz.t99.size = 4 := by kernel_rfl
@[simp] theorem Tryz.tbytes99 : Tryz.t99.bytes = 96 := by kernel_rfl
@[simp] theorem Tryz.builder99 : builderTy Tryz.prog 99 = false := by kernel_rfl
@[simp] theorem Tryz.azero99 : azero Tryz.prog 99 = some (.agg [.nilsl, .nilsl, .nilsl, .nilsl]) := by kernel_rfl
@[simp] theorem Tryz.asize107 : asize Tryz.prog 107 = some 5 := by kernel_rfl
@[simp] theorem Tryz.info107 : Tryz.prog.info? 107 = some Tryz.t107 := by kernel_rfl
@[simp] theorem Tryz.tsize107 : Tryz.t107.size = 5 := by kernel_rfl
@[simp] theorem Tryz.tbytes107 : Tryz.t107.bytes = 56 := by kernel_rfl
@[simp] theorem Tryz.builder107 : builderTy Tryz.prog 107 = false := by kernel_rfl
@[simp] theorem Tryz.azero107 : azero Tryz.prog 107 = some (.agg [.str [], .int .i64 (0), .str [], .bool false, .int .i64 (0)]) := by kernel_rfl
@[simp] theorem Tryz.asize108 : asize Tryz.prog 108 = some 5 := by kernel_rfl
@[simp] theorem Tryz.info108 : Tryz.prog.info? 108 = some Tryz.t108 := by kernel_rfl
@[simp] theorem Tryz.tsize108 : Tryz.t108.size = 5 := by kernel_rfl
@[simp] theorem Tryz.tbytes108 : Tryz.t108.bytes = 56 := by kernel_rfl
@[simp] theorem Tryz.builder108 : builderTy Tryz.prog 108 = false := by kernel_rfl
@[simp] theorem Tryz.azero108 : azero Tryz.prog 108 = some (.agg [.str [], .int .i64 (0), .str [], .bool false, .int .i64 (0)]) := by kernel_rfl
@[simp] theorem Tryz.asize111 : asize Tryz.prog 111 = some 1 := by kernel_rfl
@[simp] theorem Tryz.info111 : Tryz.prog.info? 111 = some Tryz.t111 := by kernel_rfl
@[simp] theorem Tryz.tsize111 : Tryz.t111.size = 1 := by kernel_rfl
@[simp] theorem Tryz.tbytes111 : Tryz.t111.bytes = 8 := by kernel_rfl
@[simp] theorem Tryz.builder111 : builderTy Tryz.prog 111 = false := by kernel_rfl
@[simp] theorem Tryz.azero111 : azero Tryz.prog 111 = some (.nilptr) := by kernel_rfl
@[simp] theorem Tryz.asize112 : asize Tryz.prog 112 = some 1 := by kernel_rfl
@[simp] theorem Tryz.info112 : Tryz.prog.info? 112 = some Tryz.t112 := by kernel_rfl
@[simp] theorem Tryz.tsize112 : Tryz.t112.size = 1 := by kernel_rfl
@[simp] theorem Tryz.tbytes112 : Tryz.t112.bytes = 8 := by kernel_rfl
@[simp] theorem Tryz.builder112 : builderTy Tryz.prog 112 = false := by kernel_rfl
@[simp] theorem Tryz.azero112 : azero Tryz.prog 112 = some (.nilmap) := by kernel_rfl
@[simp] theorem Tryz.asize113 : asize Tryz.prog 113 = some 1 := by kernel_rfl
@[simp] theorem Tryz.info113 : Tryz.prog.info? 113 = some Tryz.t113 := by kernel_rfl
@[simp] theorem Tryz.tsize113 : Tryz.t113.size = 1 := by kernel_rfl
@[simp] theorem Tryz.tbytes113 : Tryz.t113.bytes = 8 := by kernel_rfl
@[simp] theorem Tryz.builder113 : builderTy Tryz.prog 113 = false := by kernel_rfl
@[simp] theorem Tryz.azero113 : azero Tryz.prog 113 = some (.nilmap) := by kernel_rfl
@[simp] theorem Tryz.asize114 : asize Tryz.prog 114 = some 1 := by kernel_rfl
@[simp] theorem Tryz.info114 : Tryz.prog.info? 114 = some Tryz.t114 := by kernel_rfl
@[simp] theorem Tryz.tsize114 : Tryz.t114.size = 1 := by kernel_rfl
@[simp] theorem Tryz.tbytes114 : Tryz.t114.bytes = 24 := by kernel_rfl
@[simp] theorem Tryz.builder114 : builderTy Tryz.prog 114 = false := by kernel_rfl
@[simp] theorem Tryz.azero114 : azero Tryz.prog 114 = some (.nilsl) := by kernel_rfl
@[simp] theorem Tryz.asize115 : asize Tryz.prog 115 = some 1 := by kernel_rfl
@[simp] theorem Tryz.info115 : Tryz.prog.info? 115 = some Tryz.t115 := by kernel_rfl
@[simp] theorem Tryz.tsize115 : Tryz.t115.size = 1 := by kernel_rfl
@[simp] theorem Tryz.tbytes115 : Tryz.t115.bytes = 24 := by kernel_rfl
@[simp] theorem Tryz.builder115 : builderTy Tryz.prog 115 = false := by kernel_rfl
@[simp] theorem Tryz.azero115 : azero Tryz.prog 115 = some (.nilsl) := by kernel_rfl
@[simp] theorem Tryz.asize116 : asize Tryz.prog 116 = some 17 := by kernel_rfl
@[simp] theorem Tryz.info116 : Tryz.prog.info? 116 = some Tryz.t116 := by kernel_rfl
@[simp] theorem Tryz.tsize116 : Tryz.t116.size = 17 := by kernel_rfl
@[simp] theorem Tryz.tbytes116 : Tryz.t116.bytes = 352 := by kernel_rfl
@[simp] theorem Tryz.builder116 : builderTy Tryz.prog 116 = false := by kernel_rfl
@[simp] theorem Tryz.azero116 : azero Tryz.prog 116 = some (.agg [.str [], .nilsl, .nilsl, .nilsl, .nilsl, .int .i64 (0), .nilsl, .nilsl, .nilsl, .nilsl, .nilsl, .nilsl, .nilmap, .nilmap, .nilsl, .nilsl, .nilsl]) := by kernel_rfl
@[simp] theorem Tryz.asize117 : asize Tryz.prog 117 = some 17 := by kernel_rfl
@[simp] theorem Tryz.info117 : Tryz.prog.info? 117 = some Tryz.t117 := by kernel_rfl
@[simp] theorem Tryz.tsize117 : Tryz.t117.size = 17 := by kernel_rfl
@[simp] theorem Tryz.tbytes117 : Tryz.t117.bytes = 352 := by kernel_rfl
@[simp] theorem Tryz.builder117 : builderTy Tryz.prog 117 = false := by kernel_rfl
@[simp] theorem Tryz.azero117 : azero Tryz.prog 117 = some (.agg [.str [], .nilsl, .nilsl, .nilsl, .nilsl, .int .i64 (0), .nilsl, .nilsl, .nilsl, .nilsl, .nilsl, .nilsl, .nilmap, .nilmap, .nilsl, .nilsl, .nilsl]) := by kernel_rfl
@[simp] theorem Tryz.asize118 : asize Tryz.prog 118 = some 1 := by kernel_rfl
@[simp] theorem Tryz.info118 : Tryz.prog.info? 118 = some Tryz.t118 := by kernel_rfl
@[simp] theorem Tryz.tsize118 : Tryz.t118.size = 1 := by kernel_rfl
@[simp] theorem Tryz.tbytes118 : Tryz.t118.bytes = 24 := by kernel_rfl
@[simp] theorem Tryz.builder118 : builderTy Tryz.prog 118 = false := by kernel_rfl
@[simp] theorem Tryz.azero118 : azero Tryz.prog 118 = some (.nilsl) := by kernel_rfl
@[simp] theorem Tryz.asize120 : asize Tryz.prog 120 = some 1 := by kernel_rfl
@[simp] theorem Tryz.info120 : Tryz.prog.info? 120 = some Tryz.t120 := by kernel_rfl
@[simp] theorem Tryz.tsize120 : Tryz.t120.size = 1 := by kernel_rfl
@[simp] theorem Tryz.tbytes120 : Tryz.t120.bytes = 8 := by kernel_rfl
@[simp] theorem Tryz.builder120 : builderTy Tryz.prog 120 = false := by kernel_rfl
@[simp] theorem Tryz.azero120 : azero Tryz.prog 120 = some (.nilfunc) := by kernel_rfl
@[simp] theorem Tryz.asize122 : asize Tryz.prog 122 = some 1 := by kernel_rfl
@[simp] theorem Tryz.info122 : Tryz.prog.info? 122 = some Tryz.t122 := by kernel_rfl
@[simp] theorem Tryz.tsize122 : Tryz.t122.size = 1 := by kernel_rfl
@[simp] theorem Tryz.tbytes122 : Tryz.t122.bytes = 24 := by kernel_rfl
@[simp] theorem Tryz.builder122 : builderTy Tryz.prog 122 = false := by kernel_rfl
@[simp] theorem Tryz.azero122 : azero Tryz.prog 122 = some (.nilsl) := by kernel_rfl
@[simp] theorem Tryz.asize123 : asize Tryz.prog 123 = some 1 := by kernel_rfl
@[simp] theorem Tryz.info123 : Tryz.prog.info? 123 = some Tryz.t123 := by kernel_rfl
@[simp] theorem Tryz.tsize123 : Tryz.t123.size = 1 := by kernel_rfl
@[simp] theorem Tryz.tbytes123 : Tryz.t123.bytes = 24 := by kernel_rfl
@[simp] theorem Tryz.builder123 : builderTy Tryz.prog 123 = false := by kernel_rfl
@[simp] theorem Tryz.azero123 : azero Tryz.prog 123 = some (.nilsl) := by kernel_rfl
@[simp] theorem Tryz.asize124 : asize Tryz.prog 124 = some 8 := by kernel_rfl
@[simp] theorem Tryz.info124 : Tryz.prog.info? 124 = some Tryz.t124 := by kernel_rfl
@[simp] theorem Tryz.tsize124 : Tryz.t124.size = 8 := by kernel_rfl
@[simp] theorem Tryz.tbytes124 : Tryz.t124.bytes = 128 := by kernel_rfl
@[simp] theorem Tryz.builder124 : builderTy Tryz.prog 124 = false := by kernel_rfl
@[simp] theorem Tryz.azero124 : azero Tryz.prog 124 = some (.agg [.str [], .str [], .int .i64 (0), .int .i64 (0), .nilsl, .nilsl, .nilsl, .bool false]) := by kernel_rfl
@[simp] theorem Tryz.asize125 : asize Tryz.prog 125 = some 8 := by kernel_rfl
@[simp] theorem Tryz.info125 : Tryz.prog.info? 125 = some Tryz.t125 := by kernel_rfl
@[simp] theorem Tryz.tsize125 : Tryz.t125.size = 8 := by kernel_rfl
@[simp] theorem Tryz.tbytes125 : Tryz.t125.bytes = 128 := by kernel_rfl
@[simp] theorem Tryz.builder125 : builderTy Tryz.prog 125 = false := by kernel_rfl
@[simp] theorem Tryz.azero125 : azero Tryz.prog 125 = some (.agg [.str [], .str [], .int .i64 (0), .int .i64 (0), .nilsl, .nilsl, .nilsl, .bool false]) := by kernel_rfl
@[simp] theorem Tryz.asize126 : asize Tryz.prog 126 = some 1 := by kernel_rfl
@[simp] theorem Tryz.info126 : Tryz.prog.info? 126 = some Tryz.t126 := by kernel_rfl
@[simp] theorem Tryz.tsize126 : Tryz.t126.size = 1 := by kernel_rfl
@[simp] theorem Tryz.tbytes126 : Tryz.t126.bytes = 0 := by kernel_rfl
@[simp] theorem Tryz.builder126 : builderTy Tryz.prog 126 = false := by kernel_rfl
@[simp] theorem Tryz.asize128 : asize Tryz.prog 128 = some 1 := by kernel_rfl
@[simp] theorem Tryz.info128 : Tryz.prog.info? 128 = some Tryz.t128 := by kernel_rfl
@[simp] theorem Tryz.tsize128 : Tryz.t128.size = 1 := by kernel_rfl
@[simp] theorem Tryz.tbytes128 : Tryz.t128.bytes = 8 := by kernel_rfl
@[simp] theorem Tryz.builder128 : builderTy Tryz.prog 128 = false := by kernel_rfl
@[simp] theorem Tryz.azero128 : azero Tryz.prog 128 = some (.nilfunc) := by kernel_rfl
@[simp] theorem Tryz.asize131 : asize Tryz.prog 131 = some 1 := by kernel_rfl
@[simp] theorem Tryz.info131 : Tryz.prog.info? 131 = some Tryz.t131 := by kernel_rfl
@[simp] theorem Tryz.tsize131 : Tryz.t131.size = 1 := by kernel_rfl
@[simp] theorem Tryz.tbytes131 : Tryz.t131.bytes = 0 := by kernel_rfl
@[simp] theorem Tryz.builder131 : builderTy Tryz.prog 131 = false := by kernel_rfl
@[simp] theorem Tryz.asize136 : asize Tryz.prog 136 = some 1 := by kernel_rfl
@[simp] theorem Tryz.info136 : Tryz.prog.info? 136 = some Tryz.t136 := by kernel_rfl
@[simp] theorem Tryz.tsize136 : Tryz.t136.size = 1 := by kernel_rfl
@[simp] theorem Tryz.tbytes136 : Tryz.t136.bytes = 8 := by kernel_rfl
@[simp] theorem Tryz.builder136 : builderTy Tryz.prog 136 = false := by kernel_rfl
@[simp] theorem Tryz.azero136 : azero Tryz.prog 136 = some (.nilfunc) := by kernel_rfl
@[simp] theorem Tryz.asize137 : asize Tryz.prog 137 = some 1 := by kernel_rfl
@[simp] theorem Tryz.info137 : Tryz.prog.info? 137 = some Tryz.t137 := by kernel_rfl
@[simp] theorem Tryz.tsize137 : Tryz.t137.size = 1 := by kernel_rfl
@[simp] theorem Tryz.tbytes137 : Tryz.t137.bytes = 8 := by kernel_rfl
@[simp] theorem Tryz.builder137 : builderTy Tryz.prog 137 = false := by kernel_rfl
@[simp] theorem Tryz.azero137 : azero Tryz.prog 137 = some (.nilfunc) := by kernel_rfl
@[simp] theorem Tryz.asize138 : asize Tryz.prog 138 = some 1 := by kernel_rfl
@[simp] theorem Tryz.info138 : Tryz.prog.info? 138 = some Tryz.t138 := by kernel_rfl
@[simp] theorem Tryz.tsize138 : Tryz.t138.size = 1 := by kernel_rfl
@[simp] theorem Tryz.tbytes138 : Tryz.t138.bytes = 8 := by kernel_rfl
@[simp] theorem Tryz.builder138 : builderTy Tryz.prog 138 = false := by kernel_rfl
@[simp] theorem Tryz.azero138 : azero Tryz.prog 138 = some (.nilptr) := by kernel_rfl
@[simp] theorem Tryz.asize139 : asize Tryz.prog 139 = some 1 := by kernel_rfl
@[simp] theorem Tryz.info139 : Tryz.prog.info? 139 = some Tryz.t139 := by kernel_rfl
@[simp] theorem Tryz.tsize139 : Tryz.t139.size = 1 := by kernel_rfl
@[simp] theorem Tryz.tbytes139 : Tryz.t139.bytes = 8 := by kernel_rfl
@[simp] theorem Tryz.builder139 : builderTy Tryz.prog 139 = false := by kernel_rfl
@[simp] theorem Tryz.azero139 : azero Tryz.prog 139 = some (.nilmap) := by kernel_rfl
@[simp] theorem Tryz.asize140 : asize Tryz.prog 140 = some 8 := by kernel_rfl
@[simp] theorem Tryz.info140 : Tryz.prog.info? 140 = some Tryz.t140 := by kernel_rfl
@[simp] theorem Tryz.tsize140 : Tryz.t140.size = 8 := by kernel_rfl
@[simp] theorem Tryz.tbytes140 : Tryz.t140.bytes = 152 := by kernel_rfl
@[simp] theorem Tryz.builder140 : builderTy Tryz.prog 140 = false := by kernel_rfl
@[simp] theorem Tryz.azero140 : azero Tryz.prog 140 = some (.agg [.nilsl, .str [], .nilsl, .nilsl, .nilsl, .nilsl, .int .i64 (0), .nilmap]) := by kernel_rfl
@[simp] theorem Tryz.asize141 : asize Tryz.prog 141 = some 8 := by kernel_rfl
@[simp] theorem Tryz.info141 : Tryz.prog.info? 141 = some Tryz.t141 := by kernel_rfl
@[simp] theorem Tryz.tsize141 : Tryz.t141.size = 8 := by kernel_rfl
@[simp] theorem Tryz.tbytes141 : Tryz.t141.bytes = 152 := by kernel_rfl
@[simp] theorem Tryz.builder141 : builderTy Tryz.prog 141 = false := by kernel_rfl
@[simp] theorem Tryz.azero141 : azero Tryz.prog 141 = some (.agg [.nilsl, .str [], .nilsl, .nilsl, .nilsl, .nilsl, .int .i64 (0), .nilmap]) := by kernel_rfl
@[simp] theorem Tryz.asize143 : asize Tryz.prog 143 = some 1 := by kernel_rfl
@[simp] theorem Tryz.info143 : Tryz.prog.info? 143 = some Tryz.t143 := by kernel_rfl
@[simp] theorem Tryz.tsize143 : Tryz.t143.size = 1 := by kernel_rfl
@[simp] theorem Tryz.tbytes143 : Tryz.t143.bytes = 8 := by kernel_rfl
@[simp] theorem Tryz.builder143 : builderTy Tryz.prog 143 = false := by kernel_rfl
@[simp] theorem Tryz.azero143 : azero Tryz.prog 143 = some (.nilptr) := by kernel_rfl
@[simp] theorem Tryz.asize144 : asize Tryz.prog 144 = some 1 := by kernel_rfl
@[simp] theorem Tryz.info144 : Tryz.prog.info? 144 = some Tryz.t144 := by kernel_rfl
@[simp] theorem Tryz.tsize144 : Tryz.t144.size = 1 := by kernel_rfl
@[simp] theorem Tryz.tbytes144 : Tryz.t144.bytes = 24 := by kernel_rfl
@[simp] theorem Tryz.builder144 : builderTy Tryz.prog 144 = false := by kernel_rfl
@[simp] theorem Tryz.azero144 : azero Tryz.prog 144 = some (.nilsl) := by kernel_rfl
@[simp] theorem Tryz.asize145 : asize Tryz.prog 145 = some 8 := by kernel_rfl
@[simp] theorem Tryz.info145 : Tryz.prog.info? 145 = some Tryz.t145 := by kernel_rfl
@[simp] theorem Tryz.tsize145 : Tryz.t145.size = 8 := by kernel_rfl
@[simp] theorem Tryz.tbytes145 : Tryz.t145.bytes = 168 := by kernel_rfl
@[simp] theorem Tryz.builder145 : builderTy Tryz.prog 145 = false := by kernel_rfl
@[simp] theorem Tryz.azero145 : azero Tryz.prog 145 = some (.agg [.nilsl, .str [], .nilsl, .nilsl, .nilsl, .nilsl, .int .i64 (0), .nilsl]) := by kernel_rfl
@[simp] theorem Tryz.asize146 : asize Tryz.prog 146 = some 8 := by kernel_rfl
@[simp] theorem Tryz.info146 : Tryz.prog.info? 146 = some Tryz.t146 := by kernel_rfl
@[simp] theorem Tryz.tsize146 : Tryz.t146.size = 8 := by kernel_rfl
@[simp] theorem Tryz.tbytes146 : Tryz.t146.bytes = 168 := by kernel_rfl
@[simp] theorem Tryz.builder146 : builderTy Tryz.prog 146 = false := by kernel_rfl
@[simp] theorem Tryz.azero146 : azero Tryz.prog 146 = some (.agg [.nilsl, .str [], .nilsl, .nilsl, .nilsl, .nilsl, .int .i64 (0), .nilsl]) := by kernel_rfl
@[simp] theorem Tryz.asize147 : asize Tryz.prog 147 = some 1 := by kernel_rfl
@[simp] theorem Tryz.info147 : Tryz.prog.info? 147 = some Tryz.t147 := by kernel_rfl
@[simp] theorem Tryz.tsize147 : Tryz.t147.size = 1 := by kernel_rfl
@[simp] theorem Tryz.tbytes147 : Tryz.t147.bytes = 8 := by kernel_rfl
@[simp] theorem Tryz.builder147 : builderTy Tryz.prog 147 = false := by kernel_rfl
@[simp] theorem Tryz.azero147 : azero Tryz.prog 147 = some (.nilptr) := by kernel_rfl
@[simp] theorem Tryz.asize148 : asize Tryz.prog 148 = some 7 := by kernel_rfl
@[simp] theorem Tryz.info148 : Tryz.prog.info? 148 = some Tryz.t148 := by kernel_rfl
@[simp] theorem Tryz.tsize148 : Tryz.t148.size = 7 := by kernel_rfl
@[simp] theorem Tryz.tbytes148 : Tryz.t148.bytes = 144 := by kernel_rfl
@[simp] theorem Tryz.builder148 : builderTy Tryz.prog 148 = false := by kernel_rfl
@[simp] theorem Tryz.azero148 : azero Tryz.prog 148 = some (.agg [.str [], .nilsl, .nilsl, .nilsl, .nilsl, .int .i64 (0), .nilsl]) := by kernel_rfl
@[simp] theorem Tryz.asize149 : asize Tryz.prog 149 = some 7 := by kernel_rfl
@[simp] theorem Tryz.info149 : Tryz.prog.info? 149 = some Tryz.t149 := by kernel_rfl
@[simp] theorem Tryz.tsize149 : Tryz.t149.size = 7 := by kernel_rfl
@[simp] theorem Tryz.tbytes149 : Tryz.t149.bytes = 144 := by kernel_rfl
@[simp] theorem Tryz.builder149 : builderTy Tryz.prog 149 = false := by kernel_rfl
@[simp] theorem Tryz.azero149 : azero Tryz.prog 149 = some (.agg [.str [], .nilsl, .nilsl, .nilsl, .nilsl, .int .i64 (0), .nilsl]) := by kernel_rfl
@[simp] theorem Tryz.asize153 : asize Tryz.prog 153 = some 1 := by kernel_rfl
@[simp] theorem Tryz.info153 : Tryz.prog.info? 153 = some Tryz.t153 := by kernel_rfl
@[simp] theorem Tryz.tsize153 : Tryz.t153.size = 1 := by kernel_rfl
@[simp] theorem Tryz.tbytes153 : Tryz.t153.bytes = 8 := by kernel_rfl
@[simp] theorem Tryz.builder153 : builderTy Tryz.prog 153 = false := by kernel_rfl
@[simp] theorem Tryz.azero153 : azero Tryz.prog 153 = some (.nilmap) := by kernel_rfl
@[simp] theorem Tryz.asize155 : asize Tryz.prog 155 = some 1 := by kernel_rfl
@[simp] theorem Tryz.info155 : Tryz.prog.info? 155 = some Tryz.t155 := by kernel_rfl
@[simp] theorem Tryz.tsize155 : Tryz.t155.size = 1 := by kernel_rfl
@[simp] theorem Tryz.tbytes155 : Tryz.t155.bytes = 0 := by kernel_rfl
@[simp] theorem Tryz.builder155 : builderTy Tryz.prog 155 = false := by kernel_rfl
@[simp] theorem Tryz.azero155 : azero Tryz.prog 155 = some (.tuple [.int .i64 (0), .bool false]) := by kernel_rfl
@[simp] theorem Tryz.asize158 : asize Tryz.prog 158 = some 1 := by kernel_rfl
@[simp] theorem Tryz.info158 : Tryz.prog.info? 158 = some Tryz.t158 := by kernel_rfl
@[simp] theorem Tryz.tsize158 : Tryz.t158.size = 1 := by kernel_rfl
@[simp] theorem Tryz.tbytes158 : Tryz.t158.bytes = 8 := by kernel_rfl
@[simp] theorem Tryz.builder158 : builderTy Tryz.prog 158 = false := by kernel_rfl
@[simp] theorem Tryz.azero158 : azero Tryz.prog 158 = some (.nilptr) := by kernel_rfl
@[simp] theorem Tryz.asize175 : asize Tryz.prog 175 = some 1 := by kernel_rfl
@[simp] theorem Tryz.info175 : Tryz.prog.info? 175 = some Tryz.t175 := by kernel_rfl
@[simp] theorem Tryz.tsize175 : Tryz.t175.size = 1 := by kernel_rfl
@[simp] theorem Tryz.tbytes175 : Tryz.t175.bytes = 8 := by kernel_rfl
@[simp] theorem Tryz.builder175 : builderTy Tryz.prog 175 = false := by kernel_rfl
@[simp] theorem Tryz.azero175 : azero Tryz.prog 175 = some (.int .u64 (0)) := by kernel_rfl
@[simp] theorem Tryz.asize184 : asize Tryz.prog 184 = some 1 := by kernel_rfl
@[simp] theorem Tryz.info184 : Tryz.prog.info? 184 = some Tryz.t184 := by kernel_rfl
@[simp] theorem Tryz.tsize184 : Tryz.t184.size = 1 := by kernel_rfl
@[simp] theorem Tryz.tbytes184 : Tryz.t184.bytes = 8 := by kernel_rfl
@[simp] theorem Tryz.builder184 : builderTy Tryz.prog 184 = false := by kernel_rfl
@[simp] theorem Tryz.azero184 : azero Tryz.prog 184 = some (.nilmap) := by kernel_rfl
@[simp] theorem Tryz.asize185 : asize Tryz.prog 185 = some 2 := by kernel_rfl
@[simp] theorem Tryz.info185 : Tryz.prog.info? 185 = some Tryz.t185 := by kernel_rfl
@[simp] theorem Tryz.tsize185 : Tryz.t185.size = 2 := by kernel_rfl
@[simp] theorem Tryz.tbytes185 : Tryz.t185.bytes = 32 := by kernel_rfl
@[simp] theorem Tryz.builder185 : builderTy Tryz.prog 185 = false := by kernel_rfl
@[simp] theorem Tryz.azero185 : azero Tryz.prog 185 = some (.agg [.nilsl, .nilmap]) := by kernel_rfl
@[simp] theorem Tryz.asize186 : asize Tryz.prog 186 = some 2 := by kernel_rfl
@[simp] theorem Tryz.info186 : Tryz.prog.info? 186 = some Tryz.t186 := by kernel_rfl
@[simp] theorem Tryz.tsize186 : Tryz.t186.size = 2 := by kernel_rfl
@[simp] theorem Tryz.tbytes186 : Tryz.t186.bytes = 32 := by kernel_rfl
@[simp] theorem Tryz.builder186 : builderTy Tryz.prog 186 = false := by kernel_rfl
@[simp] theorem Tryz.azero186 : azero Tryz.prog 186 = some (.agg [.nilsl, .nilmap]) := by kernel_rfl
@[simp] theorem Tryz.asize193 : asize Tryz.prog 193 = some 10 := by kernel_rfl
@[simp] theorem Tryz.info193 : Tryz.prog.info? 193 = some Tryz.t193 := by kernel_rfl
@[simp] theorem Tryz.tsize193 : Tryz.t193.size = 10 := by kernel_rfl
@[simp] theorem Tryz.tbytes193 : Tryz.t193.bytes = 144 := by kernel_rfl
@[simp] theorem Tryz.builder193 : builderTy Tryz.prog 193 = false := by kernel_rfl
@[simp] theorem Tryz.azero193 : azero Tryz.prog 193 = some (.agg [.int .i64 (0), .int .i64 (0), .str [], .str [], .int .i64 (0), .int .i64 (0), .nilsl, .nilsl, .nilsl, .bool false]) := by kernel_rfl
@[simp] theorem Tryz.asize194 : asize Tryz.prog 194 = some 10 := by kernel_rfl
@[simp] theorem Tryz.info194 : Tryz.prog.info? 194 = some Tryz.t194 := by kernel_rfl
@[simp] theorem Tryz.tsize194 : Tryz.t194.size = 10 := by kernel_rfl
@[simp] theorem Tryz.tbytes194 : Tryz.t194.bytes = 144 := by kernel_rfl
@[simp] theorem Tryz.builder194 : builderTy Tryz.prog 194 = false := by kernel_rfl
@[simp] theorem Tryz.azero194 : azero Tryz.prog 194 = some (.agg [.int .i64 (0), .int .i64 (0), .str [], .str [], .int .i64 (0), .int .i64 (0), .nilsl, .nilsl, .nilsl, .bool false]) := by kernel_rfl
@[simp] theorem Tryz.asize196 : asize Tryz.prog 196 = some 1 := by kernel_rfl
@[simp] theorem Tryz.info196 : Tryz.prog.info? 196 = some Tryz.t196 := by kernel_rfl
@[simp] theorem Tryz.tsize196 : Tryz.t196.size = 1 := by kernel_rfl
@[simp] theorem Tryz.tbytes196 : Tryz.t196.bytes = 8 := by kernel_rfl
@[simp] theorem Tryz.builder196 : builderTy Tryz.prog 196 = false := by kernel_rfl
@[simp] theorem Tryz.azero196 : azero Tryz.prog 196 = some (.nilfunc) := by kernel_rfl
@[simp] theorem Tryz.asize202 : asize Tryz.prog 202 = some 2 := by kernel_rfl
@[simp] theorem Tryz.info202 : Tryz.prog.info? 202 = some Tryz.t202 := by kernel_rfl
@[simp] theorem Tryz.tsize202 : Tryz.t202.size = 2 := by kernel_rfl
@[simp] theorem Tryz.tbytes202 : Tryz.t202.bytes = 32 := by kernel_rfl
@[simp] theorem Tryz.builder202 : builderTy Tryz.prog 202 = false := by kernel_rfl
@[simp] theorem Tryz.azero202 : azero Tryz.prog 202 = some (.agg [.int .i64 (0), .nilsl]) := by kernel_rfl
@[simp] theorem Tryz.asize203 : asize Tryz.prog 203 = some 2 := by kernel_rfl
@[simp] theorem Tryz.info203 : Tryz.prog.info? 203 = some Tryz.t203 := by kernel_rfl
@[simp] theorem Tryz.tsize203 : Tryz.t203.size = 2 := by kernel_rfl
@[simp] theorem Tryz.tbytes203 : Tryz.t203.bytes = 32 := by kernel_rfl
@[simp] theorem Tryz.builder203 : builderTy Tryz.prog 203 = false := by kernel_rfl
@[simp] theorem Tryz.azero203 : azero Tryz.prog 203 = some (.agg [.int .i64 (0), .nilsl]) := by kernel_rfl
@[simp] theorem Tryz.asize214 : asize Tryz.prog 214 = some 2 := by kernel_rfl
@[simp] theorem Tryz.info214 : Tryz.prog.info? 214 = some Tryz.t214 := by kernel_rfl
@[simp] theorem Tryz.tsize214 : Tryz.t214.size = 2 := by kernel_rfl
@[simp] theorem Tryz.tbytes214 : Tryz.t214.bytes = 24 := by kernel_rfl
@[simp] theorem Tryz.builder214 : builderTy Tryz.prog 214 = false := by kernel_rfl
@[simp] theorem Tryz.azero214 : azero Tryz.prog 214 = some (.agg [.str [], .bool false]) := by kernel_rfl
@[simp] theorem Tryz.asize215 : asize Tryz.prog 215 = some 2 := by kernel_rfl
@[simp] theorem Tryz.info215 : Tryz.prog.info? 215 = some Tryz.t215 := by kernel_rfl
@[simp] theorem Tryz.tsize215 : Tryz.t215.size = 2 := by kernel_rfl
@[simp] theorem Tryz.tbytes215 : Tryz.t215.bytes = 24 := by kernel_rfl
@[simp] theorem Tryz.builder215 : builderTy Tryz.prog 215 = false := by kernel_rfl
@[simp] theorem Tryz.azero215 : azero Tryz.prog 215 = some (.agg [.str [], .bool false]) := by kernel_rfl
@[simp] theorem Tryz.asize219 : asize Tryz.prog 219 = some 1 := by kernel_rfl
@[simp] theorem Tryz.info219 : Tryz.prog.info? 219 = some Tryz.t219 := by kernel_rfl
@[simp] theorem Tryz.tsize219 : Tryz.t219.size = 1 := by kernel_rfl
@[simp] theorem Tryz.tbytes219 : Tryz.t219.bytes = 8 := by kernel_rfl
@[simp] theorem Tryz.builder219 : builderTy Tryz.prog 219 = false := by kernel_rfl
@[simp] theorem Tryz.azero219 : azero Tryz.prog 219 = some (.nilfunc) := by kernel_rfl
@[simp] theorem Tryz.asize236 : asize Tryz.prog 236 = some 1 := by kernel_rfl
@[simp] theorem Tryz.info236 : Tryz.prog.info? 236 = some Tryz.t236 := by kernel_rfl
@[simp] theorem Tryz.tsize236 : Tryz.t236.size = 1 := by kernel_rfl
@[simp] theorem Tryz.tbytes236 : Tryz.t236.bytes = 8 := by kernel_rfl
@[simp] theorem Tryz.builder236 : builderTy Tryz.prog 236 = false := by kernel_rfl
@[simp] theorem Tryz.azero236 : azero Tryz.prog 236 = some (.nilfunc) := by kernel_rfl
@[simp] theorem Tryz.asize249 : asize Tryz.prog 249 = some 1 := by kernel_rfl
@[simp] theorem Tryz.info249 : Tryz.prog.info? 249 = some Tryz.t249 := by kernel_rfl
@[simp] theorem Tryz.tsize249 : Tryz.t249.size = 1 := by kernel_rfl
@[simp] theorem Tryz.tbytes249 : Tryz.t249.bytes = 16 := by kernel_rfl
@[simp] theorem Tryz.builder249 : builderTy Tryz.prog 249 = false := by kernel_rfl
@[simp] theorem Tryz.azero249 : azero Tryz.prog 249 = some (.niliface) := by kernel_rfl
@[simp] theorem Tryz.asize250 : asize Tryz.prog 250 = some 1 := by kernel_rfl
@[simp] theorem Tryz.info250 : Tryz.prog.info? 250 = some Tryz.t250 := by kernel_rfl
@[simp] theorem Tryz.tsize250 : Tryz.t250.size = 1 := by kernel_rfl
@[simp] theorem Tryz.tbytes250 : Tryz.t250.bytes = 16 := by kernel_rfl
@[simp] theorem Tryz.builder250 : builderTy Tryz.prog 250 = false := by kernel_rfl
@[simp] theorem Tryz.azero250 : azero Tryz.prog 250 = some (.niliface) := by kernel_rfl
@[simp] theorem Tryz.asize251 : asize Tryz.prog 251 = some 1 := by kernel_rfl
@[simp] theorem Tryz.info251 : Tryz.prog.info? 251 = some Tryz.t251 := by kernel_rfl
@[simp] theorem Tryz.tsize251 : Tryz.t251.size = 1 := by kernel_rfl
@[simp] theorem Tryz.tbytes251 : Tryz.t251.bytes = 0 := by kernel_rfl
@[simp] theorem Tryz.builder251 : builderTy Tryz.prog 251 = false := by kernel_rfl
@[simp] theorem Tryz.azero251 : azero Tryz.prog 251 = some (.tuple [.int .i64 (0), .niliface]) := by kernel_rfl
@[simp] theorem Tryz.asize256 : asize Tryz.prog 256 = some 1 := by kernel_rfl
@[simp] theorem Tryz.info256 : Tryz.prog.info? 256 = some Tryz.t256 := by kernel_rfl
@[simp] theorem Tryz.tsize256 : Tryz.t256.size = 1 := by kernel_rfl
@[simp] theorem Tryz.tbytes256 : Tryz.t256.bytes = 8 := by kernel_rfl
@[simp] theorem Tryz.builder256 : builderTy Tryz.prog 256 = false := by kernel_rfl
@[simp] theorem Tryz.azero256 : azero Tryz.prog 256 = some (.nilfunc) := by kernel_rfl
@[simp] theorem Tryz.asize264 : asize Tryz.prog 264 = some 1 := by kernel_rfl
@[simp] theorem Tryz.info264 : Tryz.prog.info? 264 = some Tryz.t264 := by kernel_rfl
@[simp] theorem Tryz.tsize264 : Tryz.t264.size = 1 := by kernel_rfl
@[simp] theorem Tryz.tbytes264 : Tryz.t264.bytes = 8 := by kernel_rfl
@[simp] theorem Tryz.builder264 : builderTy Tryz.prog 264 = false := by kernel_rfl
@[simp] theorem Tryz.azero264 : azero Tryz.prog 264 = some (.agg [.nilmap]) := by kernel_rfl
@[simp] theorem Tryz.asize272 : asize Tryz.prog 272 = some 1 := by kernel_rfl
@[simp] theorem Tryz.info272 : Tryz.prog.info? 272 = some Tryz.t272 := by kernel_rfl
@[simp] theorem Tryz.tsize272 : Tryz.t272.size = 1 := by kernel_rfl
@[simp] theorem Tryz.tbytes272 : Tryz.t272.bytes = 8 := by kernel_rfl
@[simp] theorem Tryz.builder272 : builderTy Tryz.prog 272 = false := by kernel_rfl
@[simp] theorem Tryz.azero272 : azero Tryz.prog 272 = some (.nilfunc) := by kernel_rfl
@[simp] theorem Tryz.asize280 : asize Tryz.prog 280 = some 1 := by kernel_rfl
@[simp] theorem Tryz.info280 : Tryz.prog.info? 280 = some Tryz.t280 := by kernel_rfl
@[simp] theorem Tryz.tsize280 : Tryz.t280.size = 1 := by kernel_rfl
@[simp] theorem Tryz.tbytes280 : Tryz.t280.bytes = 8 := by kernel_rfl
@[simp] theorem Tryz.builder280 : builderTy Tryz.prog 280 = false := by kernel_rfl
@[simp] theorem Tryz.azero280 : azero Tryz.prog 280 = some (.nilfunc) := by kernel_rfl
@[simp] theorem Tryz.asize281 : asize Tryz.prog 281 = some 256 := by kernel_rfl
@[simp] theorem Tryz.info281 : Tryz.prog.info? 281 = some Tryz.t281 := by kernel_rfl
@[simp] theorem Tryz.tsize281 : Tryz.t281.size = 256 := by kernel_rfl
@[simp] theorem Tryz.tbytes281 : Tryz.t281.bytes = 256 := by kernel_rfl
@[simp] theorem Tryz.builder281 : builderTy Tryz.prog 281 = false := by kernel_rfl
@[simp] theorem Tryz.asize282 : asize Tryz.prog 282 = some 256 := by kernel_rfl
@[simp] theorem Tryz.info282 : Tryz.prog.info? 282 = some Tryz.t282 := by kernel_rfl
@[simp] theorem Tryz.tsize282 : Tryz.t282.size = 256 := by kernel_rfl
@[simp] theorem Tryz.tbytes282 : Tryz.t282.bytes = 256 := by kernel_rfl
@[simp] theorem Tryz.builder282 : builderTy Tryz.prog 282 = false := by kernel_rfl
@[simp] theorem Tryz.asize283 : asize Tryz.prog 283 = some 1 := by kernel_rfl
@[simp] theorem Tryz.info283 : Tryz.prog.info? 283 = some Tryz.t283 := by kernel_rfl
@[simp] theorem Tryz.tsize283 : Tryz.t283.size = 1 := by kernel_rfl
@[simp] theorem Tryz.tbytes283 : Tryz.t283.bytes = 0 := by kernel_rfl
@[simp] theorem Tryz.builder283 : builderTy Tryz.prog 283 = false := by kernel_rfl
@[simp] theorem Tryz.asize286 : asize Tryz.prog 286 = some 1 := by kernel_rfl
@[simp] theorem Tryz.info286 : Tryz.prog.info? 286 = some Tryz.t286 := by kernel_rfl
@[simp] theorem Tryz.tsize286 : Tryz.t286.size = 1 := by kernel_rfl
@[simp] theorem Tryz.tbytes286 : Tryz.t286.bytes = 8 := by kernel_rfl
@[simp] theorem Tryz.builder286 : builderTy Tryz.prog 286 = false := by kernel_rfl
@[simp] theorem Tryz.azero286 : azero Tryz.prog 286 = some (.nilptr) := by kernel_rfl
@[simp] theorem Tryz.asize300 : asize Tryz.prog 300 = some 1 := by kernel_rfl
@[simp] theorem Tryz.info300 : Tryz.prog.info? 300 = some Tryz.t300 := by kernel_rfl
@[simp] theorem Tryz.tsize300 : Tryz.t300.size = 1 := by kernel_rfl
@[simp] theorem Tryz.tbytes300 : Tryz.t300.bytes = 8 := by kernel_rfl
@[simp] theorem Tryz.builder300 : builderTy Tryz.prog 300 = false := by kernel_rfl
@[simp] theorem Tryz.azero300 : azero Tryz.prog 300 = some (.nilfunc) := by kernel_rfl
@[simp] theorem Tryz.asize302 : asize Tryz.prog 302 = some 1 := by kernel_rfl
@[simp] theorem Tryz.info302 : Tryz.prog.info? 302 = some Tryz.t302 := by kernel_rfl
@[simp] theorem Tryz.tsize302 : Tryz.t302.size = 1 := by kernel_rfl
@[simp] theorem Tryz.tbytes302 : Tryz.t302.bytes = 8 := by kernel_rfl
@[simp] theorem Tryz.builder302 : builderTy Tryz.prog 302 = false := by kernel_rfl
@[simp] theorem Tryz.azero302 : azero Tryz.prog 302 = some (.int .i64 (0)) := by kernel_rfl
@[simp] theorem Tryz.asize303 : asize Tryz.prog 303 = some 1 := by kernel_rfl
@[simp] theorem Tryz.info303 : Tryz.prog.info? 303 = some Tryz.t303 := by kernel_rfl
@[simp] theorem Tryz.tsize303 : Tryz.t303.size = 1 := by kernel_rfl
@[simp] theorem Tryz.tbytes303 : Tryz.t303.bytes = 0 := by kernel_rfl
@[simp] theorem Tryz.builder303 : builderTy Tryz.prog 303 = false := by kernel_rfl
@[simp] theorem Tryz.azero303 : azero Tryz.prog 303 = some (.tuple [.int .u64 (0), .niliface]) := by kernel_rfl
@[simp] theorem Tryz.asize304 : asize Tryz.prog 304 = some 1 := by kernel_rfl
@[simp] theorem Tryz.info304 : Tryz.prog.info? 304 = some Tryz.t304 := by kernel_rfl
@[simp] theorem Tryz.tsize304 : Tryz.t304.size = 1 := by kernel_rfl
@[simp] theorem Tryz.tbytes304 : Tryz.t304.bytes = 8 := by kernel_rfl
@[simp] theorem Tryz.builder304 : builderTy Tryz.prog 304 = false := by kernel_rfl
@[simp] theorem Tryz.azero304 : azero Tryz.prog 304 = some (.nilfunc) := by kernel_rfl
@[simp] theorem Tryz.asize305 : asize Tryz.prog 305 = some 1 := by kernel_rfl
@[simp] theorem Tryz.info305 : Tryz.prog.info? 305 = some Tryz.t305 := by kernel_rfl
@[simp] theorem Tryz.tsize305 : Tryz.t305.size = 1 := by kernel_rfl
@[simp] theorem Tryz.tbytes305 : Tryz.t305.bytes = 8 := by kernel_rfl
@[simp] theorem Tryz.builder305 : builderTy Tryz.prog 305 = false := by kernel_rfl
@[simp] theorem Tryz.azero305 : azero Tryz.prog 305 = some (.nilptr) := by kernel_rfl
@[simp] theorem Tryz.asize314 : asize Tryz.prog 314 = some 3 := by kernel_rfl
@[simp] theorem Tryz.info314 : Tryz.prog.info? 314 = some Tryz.t314 := by kernel_rfl
@[simp] theorem Tryz.tsize314 : Tryz.t314.size = 3 := by kernel_rfl
@[simp] theorem Tryz.tbytes314 : Tryz.t314.bytes = 48 := by kernel_rfl
@[simp] theorem Tryz.builder314 : builderTy Tryz.prog 314 = false := by kernel_rfl
@[simp] theorem Tryz.azero314 : azero Tryz.prog 314 = some (.agg [.str [], .str [], .niliface]) := by kernel_rfl
@[simp] theorem Tryz.asize315 : asize Tryz.prog 315 = some 3 := by kernel_rfl
@[simp] theorem Tryz.info315 : Tryz.prog.info? 315 = some Tryz.t315 := by kernel_rfl
@[simp] theorem Tryz.tsize315 : Tryz.t315.size = 3 := by kernel_rfl
@[simp] theorem Tryz.tbytes315 : Tryz.t315.bytes = 48 := by kernel_rfl
@[simp] theorem Tryz.builder315 : builderTy Tryz.prog 315 = false := by kernel_rfl
@[simp] theorem Tryz.azero315 : azero Tryz.prog 315 = some (.agg [.str [], .str [], .niliface]) := by kernel_rfl
@[simp] theorem Tryz.asize327 : asize Tryz.prog 327 = some 1 := by kernel_rfl
@[simp] theorem Tryz.info327 : Tryz.prog.info? 327 = some Tryz.t327 := by kernel_rfl
@[simp] theorem Tryz.tsize327 : Tryz.t327.size = 1 := by kernel_rfl
@[simp] theorem Tryz.tbytes327 : Tryz.t327.bytes = 8 := by kernel_rfl
@[simp] theorem Tryz.builder327 : builderTy Tryz.prog 327 = false := by kernel_rfl
@[simp] theorem Tryz.azero327 : azero Tryz.prog 327 = some (.nilptr) := by kernel_rfl
@[simp] theorem Tryz.asize328 : asize Tryz.prog 328 = some 1 := by kernel_rfl
@[simp] theorem Tryz.info328 : Tryz.prog.info? 328 = some Tryz.t328 := by kernel_rfl
@[simp] theorem Tryz.tsize328 : Tryz.t328.size = 1 := by kernel_rfl
@[simp] theorem Tryz.tbytes328 : Tryz.t328.bytes = 8 := by kernel_rfl
@[simp] theorem Tryz.builder328 : builderTy Tryz.prog 328 = false := by kernel_rfl
@[simp] theorem Tryz.azero328 : azero Tryz.prog 328 = some (.nilptr) := by kernel_rfl
@[simp] theorem Tryz.asize329 : asize Tryz.prog 329 = some 1 := by kernel_rfl
@[simp] theorem Tryz.info329 : Tryz.prog.info? 329 = some Tryz.t329 := by kernel_rfl
@[simp] theorem Tryz.tsize329 : Tryz.t329.size = 1 := by kernel_rfl
@[simp] theorem Tryz.tbytes329 : Tryz.t329.bytes = 16 := by kernel_rfl
@[simp] theorem Tryz.builder329 : builderTy Tryz.prog 329 = false := by kernel_rfl
@[simp] theorem Tryz.azero329 : azero Tryz.prog 329 = some (.agg [.str []]) := by kernel_rfl
@[simp] theorem Tryz.asize330 : asize Tryz.prog 330 = some 1 := by kernel_rfl
@[simp] theorem Tryz.info330 : Tryz.prog.info? 330 = some Tryz.t330 := by kernel_rfl
@[simp] theorem Tryz.tsize330 : Tryz.t330.size = 1 := by kernel_rfl
@[simp] theorem Tryz.tbytes330 : Tryz.t330.bytes = 16 := by kernel_rfl
@[simp] theorem Tryz.builder330 : builderTy Tryz.prog 330 = false := by kernel_rfl
@[simp] theorem Tryz.azero330 : azero Tryz.prog 330 = some (.agg [.str []]) := by kernel_rfl
@[simp] theorem Tryz.asize340 : asize Tryz.prog 340 = some 4 := by kernel_rfl
@[simp] theorem Tryz.info340 : Tryz.prog.info? 340 = some Tryz.t340 := by kernel_rfl
@[simp] theorem Tryz.tsize340 : Tryz.t340.size = 4 := by kernel_rfl
@[simp] theorem Tryz.tbytes340 : Tryz.t340.bytes = 40 := by kernel_rfl
@[simp] theorem Tryz.builder340 : builderTy Tryz.prog 340 = false := by kernel_rfl
@[simp] theorem Tryz.azero340 : azero Tryz.prog 340 = some (.agg [.nilptr, .nilptr, .nilptr, .str []]) := by kernel_rfl
@[simp] theorem Tryz.asize341 : asize Tryz.prog 341 = some 4 := by kernel_rfl
@[simp] theorem Tryz.info341 : Tryz.prog.info? 341 = some Tryz.t341 := by kernel_rfl
@[simp] theorem Tryz.tsize341 : Tryz.t341.size = 4 := by kernel_rfl
@[simp] theorem Tryz.tbytes341 : Tryz.t341.bytes = 40 := by kernel_rfl
@[simp] theorem Tryz.builder341 : builderTy Tryz.prog 341 = false := by kernel_rfl
@[simp] theorem Tryz.azero341 : azero Tryz.prog 341 = some (.agg [.nilptr, .nilptr, .nilptr, .str []]) := by kernel_rfl
@[simp] theorem Tryz.asize342 : asize Tryz.prog 342 = some 0 := by kernel_rfl
@[simp] theorem Tryz.info342 : Tryz.prog.info? 342 = some Tryz.t342 := by kernel_rfl
@[simp] theorem Tryz.tsize342 : Tryz.t342.size = 0 := by kernel_rfl
@[simp] theorem Tryz.tbytes342 : Tryz.t342.bytes = 0 := by kernel_rfl
@[simp] theorem Tryz.builder342 : builderTy Tryz.prog 342 = false := by kernel_rfl
@[simp] theorem Tryz.azero342 : azero Tryz.prog 342 = some (.agg []) := by kernel_rfl
@[simp] theorem Tryz.asize343 : asize Tryz.prog 343 = some 0 := by kernel_rfl
@[simp] theorem Tryz.info343 : Tryz.prog.info? 343 = some Tryz.t343 := by kernel_rfl
@[simp] theorem Tryz.tsize343 : Tryz.t343.size = 0 := by kernel_rfl
@[simp] theorem Tryz.tbytes343 : Tryz.t343.bytes = 0 := by kernel_rfl
@[simp] theorem Tryz.builder343 : builderTy Tryz.prog 343 = false := by kernel_rfl
@[simp] theorem Tryz.azero343 : azero Tryz.prog 343 = some (.agg []) := by kernel_rfl
@[simp] theorem Tryz.asize344 : asize Tryz.prog 344 = some 0 := by kernel_rfl
@[simp] theorem Tryz.info344 : Tryz.prog.info? 344 = some Tryz.t344 := by kernel_rfl
@[simp] theorem Tryz.tsize344 : Tryz.t344.size = 0 := by kernel_rfl
@[simp] theorem Tryz.tbytes344 : Tryz.t344.bytes = 0 := by kernel_rfl
@[simp] theorem Tryz.builder344 : builderTy Tryz.prog 344 = false := by kernel_rfl
@[simp] theorem Tryz.azero344 : azero Tryz.prog 344 = some (.agg []) := by kernel_rfl
@[simp] theorem Tryz.asize345 : asize Tryz.prog 345 = some 1 := by kernel_rfl
@[simp] theorem Tryz.info345 : Tryz.prog.info? 345 = some Tryz.t345 := by kernel_rfl
@[simp] theorem Tryz.tsize345 : Tryz.t345.size = 1 := by kernel_rfl
@[simp] theorem Tryz.tbytes345 : Tryz.t345.bytes = 1 := by kernel_rfl
@[simp] theorem Tryz.builder345 : builderTy Tryz.prog 345 = false := by kernel_rfl
@[simp] theorem Tryz.azero345 : azero Tryz.prog 345 = some (.int .u8 (0)) := by kernel_rfl
@[simp] theorem Tryz.asize346 : asize Tryz.prog 346 = some 1 := by kernel_rfl
@[simp] theorem Tryz.info346 : Tryz.prog.info? 346 = some Tryz.t346 := by kernel_rfl
@[simp] theorem Tryz.tsize346 : Tryz.t346.size = 1 := by kernel_rfl
@[simp] theorem Tryz.tbytes346 : Tryz.t346.bytes = 1 := by kernel_rfl
@[simp] theorem Tryz.builder346 : builderTy Tryz.prog 346 = false := by kernel_rfl
@[simp] theorem Tryz.azero346 : azero Tryz.prog 346 = some (.int .u8 (0)) := by kernel_rfl
@[simp] theorem Tryz.asize347 : asize Tryz.prog 347 = some 1 := by kernel_rfl
@[simp] theorem Tryz.info347 : Tryz.prog.info? 347 = some Tryz.t347 := by kernel_rfl
@[simp] theorem Tryz.tsize347 : Tryz.t347.size = 1 := by kernel_rfl
@[simp] theorem Tryz.tbytes347 : Tryz.t347.bytes = 8 := by kernel_rfl
@[simp] theorem Tryz.builder347 : builderTy Tryz.prog 347 = false := by kernel_rfl
@[simp] theorem Tryz.azero347 : azero Tryz.prog 347 = some (.nilfunc) := by kernel_rfl
@[simp] theorem Tryz.asize348 : asize Tryz.prog 348 = some 1 := by kernel_rfl
@[simp] theorem Tryz.info348 : Tryz.prog.info? 348 = some Tryz.t348 := by kernel_rfl
@[simp] theorem Tryz.tsize348 : Tryz.t348.size = 1 := by kernel_rfl
@[simp] theorem Tryz.tbytes348 : Tryz.t348.bytes = 4 := by kernel_rfl
@[simp] theorem Tryz.builder348 : builderTy Tryz.prog 348 = false := by kernel_rfl
@[simp] theorem Tryz.azero348 : azero Tryz.prog 348 = some (.int .i32 (0)) := by kernel_rfl
@[simp] theorem Tryz.asize349 : asize Tryz.prog 349 = some 1 := by kernel_rfl
@[simp] theorem Tryz.info349 : Tryz.prog.info? 349 = some Tryz.t349 := by kernel_rfl
@[simp] theorem Tryz.tsize349 : Tryz.t349.size = 1 := by kernel_rfl
@[simp] theorem Tryz.tbytes349 : Tryz.t349.bytes = 4 := by kernel_rfl
@[simp] theorem Tryz.builder349 : builderTy Tryz.prog 349 = false := by kernel_rfl
@[simp] theorem Tryz.azero349 : azero Tryz.prog 349 = some (.int .i32 (0)) := by kernel_rfl
@[simp] theorem Tryz.asize350 : asize Tryz.prog 350 = some 11 := by kernel_rfl
@[simp] theorem Tryz.info350 : Tryz.prog.info? 350 = some Tryz.t350 := by kernel_rfl
@[simp] theorem Tryz.tsize350 : Tryz.t350.size = 11 := by kernel_rfl
@[simp] theorem Tryz.tbytes350 : Tryz.t350.bytes = 48 := by kernel_rfl
@[simp] theorem Tryz.builder350 : builderTy Tryz.prog 350 = false := by kernel_rfl
@[simp] theorem Tryz.azero350 : azero Tryz.prog 350 = some (.agg [.int .u64 (0), .int .u64 (0), .int .u32 (0), .int .u8 (0), .int .u8 (0), .int .u8 (0), .int .u8 (0), .nilfunc, .nilptr, .int .i32 (0), .int .i32 (0)]) := by kernel_rfl
@[simp] theorem Tryz.asize351 : asize Tryz.prog 351 = some 11 := by kernel_rfl
@[simp] theorem Tryz.info351 : Tryz.prog.info? 351 = some Tryz.t351 := by kernel_rfl
@[simp] theorem Tryz.tsize351 : Tryz.t351.size = 11 := by kernel_rfl
@[simp] theorem Tryz.tbytes351 : Tryz.t351.bytes = 48 := by kernel_rfl
@[simp] theorem Tryz.builder351 : builderTy Tryz.prog 351 = false := by kernel_rfl
@[simp] theorem Tryz.azero351 : azero Tryz.prog 351 = some (.agg [.int .u64 (0), .int .u64 (0), .int .u32 (0), .int .u8 (0), .int .u8 (0), .int .u8 (0), .int .u8 (0), .nilfunc, .nilptr, .int .i32 (0), .int .i32 (0)]) := by kernel_rfl
end Go.Proofs

namespace Go.Proofs.YthmnpnbcdoemfaaGreatDoor
open Go Go.Abs Go.Lex
set_option linter.unusedSimpArgs false
variable {G : Nat → Option AV}
theorem hasPrefixL (s p : List UInt8) (H : AHeap) : Does Tryz.prog G 158 [.str s, .str p] H fun r H' => r = .bool (p.isPrefixOf s) ∧ H' = H := by
  refine does_f Tryz.call158 Tryz.func158 rfl (by simp [Tryz.f158]) ?_
  by_cases h : p.length ≤ s.length
  · have h1 : (p.length : Int) ≤ s.length := by omega
    simp [h, h1]
    rw [Bool.eq_iff_iff, List.isPrefixOf_iff_prefix, List.prefix_iff_eq_take]
    simp
    exact eq_comm
  · have h1 : ¬ (p.length : Int) ≤ s.length := by omega
    have h2 : p.isPrefixOf s = false := by
      rw [Bool.eq_false_iff]
      intro e
      exact h (List.isPrefixOf_iff_prefix.1 e).length_le
    simp [h, h1, h2]
theorem hasPrefix (s p : List UInt8) (H : AHeap) : Does Tryz.prog G 105 [.str s, .str p] H fun r H' => r = .bool (p.isPrefixOf s) ∧ H' = H := by
  refine does_f Tryz.call105 Tryz.func105 rfl (by simp [Tryz.f105]) ?_
  simp
  refine does_use (hasPrefixL s p H) ?_
  rintro _ _ ⟨rfl, rfl⟩
  simp
theorem asciiContains (H : AHeap) (i : Nat) (cs : List AV) (b : UInt8) (v : Bool) (h : H.get i = some (.cells cs)) (hl : cs.length = 256) (hv : cs[b.toNat]? = some (.bool v)) :
    Does Tryz.prog G 216 [.ptr i 0, .int .u8 b.toNat] H fun r H' => r = .bool v ∧ H' = H := by
  have hb := b.toNat_lt
  have h1 : (b.toNat : Int) < 256 := by omega
  have h2 : b.toNat ≤ 256 := by omega
  refine does_f Tryz.call216 Tryz.func216 rfl (by simp [Tryz.f216]) ?_
  simp [h, hl, hv, h1, h2]
def asciiCells (l : List UInt8) : List AV := (List.range 256).map fun k => .bool (l.any fun b => b.toNat == k)
@[simp] theorem asciiCells_length (l : List UInt8) : (asciiCells l).length = 256 := by simp [asciiCells]
theorem asciiCells_get (l : List UInt8) (b : UInt8) : (asciiCells l)[b.toNat]? = some (.bool (l.contains b)) := by
  have hb := b.toNat_lt
  simp only [asciiCells, List.getElem?_map]
  rw [List.getElem?_range hb]
  simp only [Option.map_some, Option.some.injEq, AV.bool.injEq]
  rw [Bool.eq_iff_iff]
  simp only [List.any_eq_true, beq_iff_eq, List.contains_iff_mem]
  constructor
  · rintro ⟨x, hx, e⟩
    rw [← UInt8.toNat_inj.1 e]; exact hx
  · intro h; exact ⟨b, h, rfl⟩
theorem asciiCells_set (l : List UInt8) (b : UInt8) : (asciiCells l).set b.toNat (.bool true) = asciiCells (l ++ [b]) := by
  apply List.ext_getElem?
  intro k
  rw [List.getElem?_set]
  simp only [asciiCells, List.getElem?_map, List.length_map, List.length_range]
  by_cases hk : k < 256
  · rw [List.getElem?_range hk]
    by_cases e : b.toNat = k
    · subst e; simp [hk]
    · rw [if_neg e]
      simp [e]
  · have : (List.range 256)[k]? = none := List.getElem?_eq_none (by simp; omega)
    rw [this]
    split <;> simp
    omega
end Go.Proofs.YthmnpnbcdoemfaaGreatDoor

namespace Go.Abs
open Go
theorem aws_loop {X : Ctx} {c : Code} {Q : Post} {T : Nat → AV} {H : AHeap} (I : Nat → (Nat → AV) → AHeap → Prop) (n : Nat) (h0 : I n T H)
    (round : ∀ n T H, I n T H → @AWf ⟨X⟩ ⟨c⟩ ⟨QThen (fun T' H' => ∃ m, m < n ∧ I m T' H') Q⟩ ⟨T⟩ H) : @AWs ⟨X⟩ ⟨.loop c⟩ ⟨Q⟩ ⟨T⟩ H :=
  aw_loop I n h0 fun n T H h => awf_of (round n T H h)
theorem aw_wf {P : Program} {G : Nat → Option AV} {N : Nat} {c : Code} {Q : Post} {T : Nat → AV} {H : AHeap} (h : H.Wf → (∀ t, (T t).idLt H.next = true) → AW P G N c Q T H) : AW P G N c Q T H := by
  intro E0 a w hG hs
  obtain ⟨⟨E, hx, hR, hT⟩, hd⟩ := hs
  exact h hR.wf (fun t => VRel.idLt hR.dom (hT.rel t)) E0 a w hG ⟨⟨E, hx, hR, hT⟩, hd⟩
theorem aws_loopw {X : Ctx} {c : Code} {Q : Post} {T : Nat → AV} {H : AHeap} (I : Nat → (Nat → AV) → AHeap → Prop) (n : Nat) (h0 : I n T H)
    (round : ∀ n T H, I n T H → H.Wf → (∀ t, (T t).idLt H.next = true) → @AWf ⟨X⟩ ⟨c⟩ ⟨QThen (fun T' H' => ∃ m, m < n ∧ I m T' H') Q⟩ ⟨T⟩ H) : @AWs ⟨X⟩ ⟨.loop c⟩ ⟨Q⟩ ⟨T⟩ H :=
  aw_loop I n h0 fun n T H h => aw_wf fun hw ht => awf_of (round n T H h hw ht)
theorem over_empty (H : AHeap) : (AHeap.empty 0).over H = H := by
  refine AHeap.ext' rfl fun i => ?_
  show (match H.get i with | some x => some x | none => none) = H.get i
  cases H.get i <;> rfl
theorem Does.closed {P : Program} {f : FuncId} {b : Bool} (h : Does P (fun _ => none) f [] (AHeap.empty 0) fun r _ => r = .bool b) (H : AHeap) : Does P (fun _ => none) f [] H fun r H' => r = .bool b ∧ H' = H := by
  refine ⟨fun E w vs hR hG hv => ?_⟩
  have hR' : Rel E ((AHeap.empty 0).over H) w := by rw [over_empty]; exact hR
  have ha : Rel (E.aside H w 0) (AHeap.empty 0) w := Rel.aside hR' (fun _ _ _ => Nat.zero_le _) (fun i x hi => by simp [AHeap.empty] at hi) (fun i x hi => by simp [AHeap.empty] at hi)
  cases hv
  refine (h.run _ w [] ha (fun _ _ h => by simp at h) .nil).mono ?_
  rintro v w' ⟨r, H', E', rfl, hx, hvr, hR2⟩
  cases hvr
  refine ⟨.bool b, H, E, ⟨rfl, rfl⟩, Ext.refl E, .bool b, ?_⟩
  refine ⟨hR2.os.trans hx.os, hR2.out.trans hx.out, fun B o hB => hR2.K _ _ (hx.K B o hB), fun B o hB => ?_, hR.KF, hR.dom, fun i x hi => ?_, hR.inj⟩
  · refine hR2.F _ _ ?_
    rw [hx.F]
    simp only [Env.aside, hB]
  · obtain ⟨p, ob, g1, g2, g3, g4, g5⟩ := hR.live i x hi
    refine ⟨p, ob, g1, g2, g3, hR2.F _ _ ?_, g5⟩
    rw [hx.F]
    simp only [Env.aside, g3]
    rw [if_pos ⟨i, x, p, hi, g1, rfl⟩]
    exact g4
end Go.Abs

namespace Go.Proofs.YthmnpnbcdoemfaaGreatDoor
open Go Go.Abs Go.Lex
set_option linter.unusedSimpArgs false
variable {G : Nat → Option AV}
@[simp] theorem take_ascii (l : List UInt8) : List.take 256 (asciiCells l) = asciiCells l := by rw [List.take_of_length_le]; simp
@[simp] theorem zeroSet : azero Tryz.prog 282 = some (.agg (asciiCells [])) := by kernel_rfl
@[simp] theorem drop_ascii (l : List UInt8) : List.drop 256 (asciiCells l) = [] := by rw [List.drop_of_length_le]; simp
@[simp] theorem ascii_scalar (l : List UInt8) : (∀ x ∈ asciiCells l, x.scalar = true) = True := by
  simp only [eq_iff_iff, iff_true]
  intro x hx
  simp only [asciiCells, List.mem_map] at hx
  obtain ⟨k, _, rfl⟩ := hx
  rfl
theorem ascii_splice (l : List UInt8) (c : UInt8) : List.take c.toNat (asciiCells l) ++ AV.bool true :: List.drop (c.toNat + 1) (asciiCells l) = asciiCells (l ++ [c]) := by
  have hc := c.toNat_lt
  rw [← asciiCells_set, List.set_eq_take_append_cons_drop, if_pos (by rw [asciiCells_length]; omega)]
theorem makeSet (chars : List UInt8) (hc : ∀ b ∈ chars, b.toNat < 128) (hl : chars.length ≤ 1000000) (H : AHeap) : Does Tryz.prog G 193 [.str chars] H fun r H' => r = .tuple [.agg (asciiCells chars), .bool true] ∧ H' = H.push (.cells (asciiCells chars)) := by
  refine does_f Tryz.call193 Tryz.func193 rfl (by simp [Tryz.f193]) ?_
  simp
  refine aws_loop (fun m T' H' => ∃ a b, chars = a ++ b ∧ m = b.length ∧ T' 0 = .str chars ∧ T' 2 = .ptr H.next 0 ∧ T' 4 = .int .i64 a.length ∧ H' = H.push (.cells (asciiCells a))) chars.length ⟨[], chars, rfl, rfl, by simp⟩ ?_
  rintro m T H' ⟨a, b, rfl, rfl, h0, h2, h4, rfl⟩
  cases b with
  | nil => simp [h0, h2, h4]
  | cons c b =>
    have hlt : (a.length : Int) < a.length + (b.length + 1) := by omega
    have hc1 : c.toNat < 128 := hc c (by simp)
    have hc2 : ¬ (128 : Int) ≤ c.toNat := by omega
    have hc3 : (c.toNat : Int) < 256 := by omega
    have hc4 : c.toNat ≤ 255 := by omega
    have hw : IntKind.i64.wrap ((a.length : Int) + 1) = a.length + 1 := by
      simp only [List.length_append, List.length_cons] at hl
      exact IntWalk.i64_in _ (by omega)
    simp [h0, h2, h4, hlt, hc2, hc3, hc4, ascii_splice, hw]
    refine ⟨b.length, by omega, a ++ [c], b, by simp, rfl, ?_⟩
    simp
theorem trimASCII (s set : List UInt8) (p : UInt8 → Bool) (hp : ∀ b, set.contains b = p b) (i : Nat) (H : AHeap) (h : H.get i = some (.cells (asciiCells set))) : Does Tryz.prog G 194 [.str s, .ptr i 0] H fun r H' => r = .str (s.dropWhile p) ∧ H' = H := by
  refine does_f Tryz.call194 Tryz.func194 rfl (by simp [Tryz.f194]) ?_
  simp
  refine aws_loop (fun m T' H' => ∃ q : List UInt8, s.dropWhile p = q.dropWhile p ∧ m = q.length ∧ T' 0 = .str q ∧ T' 1 = .ptr i 0 ∧ H' = H) s.length ⟨s, rfl, rfl, by simp⟩ ?_
  rintro m T H' ⟨q, hq, rfl, h0, h1, rfl⟩
  rw [hq]
  cases q with
  | nil => simp [h0, h1]
  | cons b q =>
    have hl : (0 : Int) < q.length + 1 := by omega
    have hl2 : (1 : Int) ≤ q.length + 1 := by omega
    simp [h0, h1, hl]
    refine does_use (asciiContains H' i _ b _ h (by simp) (asciiCells_get set b)) ?_
    rintro _ _ ⟨rfl, rfl⟩
    rw [hp]
    cases hb : p b with
    | true =>
      simp [h0, h1, hb, hl, hl2]
    | false => simp [h0, h1, hb]
theorem trimLeft (s set : List UInt8) (p : UInt8 → Bool) (hp : ∀ b, set.contains b = p b) (hc : ∀ b ∈ set, b.toNat < 128) (hl : set.length ≤ 1000000) (h2 : 2 ≤ set.length) (H : AHeap) : Does Tryz.prog G 157 [.str s, .str set] H fun r H' => r = .str (s.dropWhile p) ∧ H' = H := by
  refine Does.forgot (R := fun r H' => r = .str (s.dropWhile p) ∧ ∀ j x, H.get j = some x → H'.get j = some x) ?_ ?_
  · refine Does.wf Tryz.call157 fun hw _ => ?_
    have old : ∀ j x, H.get j = some x → j ≠ H.next ∧ j ≠ H.next + 1 := fun j x hj => by have := next_lt hw hj; omega
    refine does_f Tryz.call157 Tryz.func157 rfl (by simp [Tryz.f157]) ?_
    have hne : set ≠ [] := fun e => by subst e; simp at h2
    have hn1 : ¬ (set.length : Int) = 1 := by omega
    cases hs : s with
    | nil => simp
    | cons b q =>
      rw [← hs]
      have hs1 : s.isEmpty = false := by rw [hs]; rfl
      have hs2 : set.isEmpty = false := by cases set <;> simp_all
      simp [hs1, hs2, hn1]
      refine does_use (makeSet set hc hl H) ?_
      rintro _ _ ⟨rfl, rfl⟩
      simp
      refine does_use (trimASCII s set p hp _ _ (by simp)) ?_
      rintro _ _ ⟨rfl, rfl⟩
      simp
      intro j x hj
      simp [hj, old j x hj]
  · rintro hw ha r H1 ⟨rfl, h⟩
    exact ⟨h, rfl, rfl, rfl⟩
theorem isIdx : IsIdx Tryz.prog 196 := ⟨⟨Tryz.f196, Tryz.func196, by kernel_rfl, by kernel_rfl, by kernel_rfl, by kernel_rfl⟩⟩
def idxB (s : List UInt8) (c : UInt8) : Int := match s.findIdx? (fun b => b == c) with
  | some i => i
  | none => -1
theorem idxB_eq (c : UInt8) : ∀ s : List UInt8, Go.Lib.indexByte s c = idxB s c
  | [] => rfl
  | b :: s => by
    rw [indexByte_cases, idxB_eq c s]
    unfold idxB
    rw [List.findIdx?_cons]
    by_cases h : b = c
    · subst h; simp
    · simp only [h, if_false, beq_iff_eq]
      cases hf : List.findIdx? (fun b => b == c) s with
      | none => simp
      | some i =>
        simp only [Option.map_some]
        rw [if_neg (by omega)]
        omega
theorem indexByteL (s : List UInt8) (c : UInt8) (H : AHeap) : Does Tryz.prog G 159 [.str s, .int .u8 c.toNat] H fun r H' => r = .int .i64 (idxB s c) ∧ H' = H := by
  refine does_f Tryz.call159 Tryz.func159 rfl (by simp [Tryz.f159]) ?_
  simp
  refine does_use (idx_does isIdx s c.toNat H) ?_
  rintro _ _ ⟨rfl, rfl⟩
  have e : ((c.toNat : Int).toNat).toUInt8 = c := by simp
  rw [e, idxB_eq]
  simp
theorem indexByte (s : List UInt8) (c : UInt8) (H : AHeap) : Does Tryz.prog G 106 [.str s, .int .u8 c.toNat] H fun r H' => r = .int .i64 (idxB s c) ∧ H' = H := by
  refine does_f Tryz.call106 Tryz.func106 rfl (by simp [Tryz.f106]) ?_
  simp
  refine does_use (indexByteL s c H) ?_
  rintro _ _ ⟨rfl, rfl⟩
  simp
theorem index1L (s : List UInt8) (c : UInt8) (H : AHeap) : Does Tryz.prog G 197 [.str s, .str [c]] H fun r H' => r = .int .i64 (idxB s c) ∧ H' = H := by
  refine does_f Tryz.call197 Tryz.func197 rfl (by simp [Tryz.f197]) ?_
  by_cases h : [c] = s
  · subst h
    simp [idxB]
  · have h1 : ([c] == s) = false := by simpa using h
    simp [h1]
    refine does_use (indexByteL s c H) ?_
    rintro _ _ ⟨rfl, rfl⟩
    simp
theorem contains1 (s : List UInt8) (c : UInt8) (H : AHeap) : Does Tryz.prog G 107 [.str s, .str [c]] H fun r H' => r = .bool (s.contains c) ∧ H' = H := by
  have hk : ∀ H : AHeap, Does Tryz.prog G 160 [.str s, .str [c]] H fun r H' => r = .int .i64 (idxB s c) ∧ H' = H := by
    intro H
    refine does_f Tryz.call160 Tryz.func160 rfl (by simp [Tryz.f160]) ?_
    simp
    refine does_use (index1L s c H) ?_
    rintro _ _ ⟨rfl, rfl⟩
    simp
  refine does_f Tryz.call107 Tryz.func107 rfl (by simp [Tryz.f107]) ?_
  simp
  refine does_use (hk H) ?_
  rintro _ _ ⟨rfl, rfl⟩
  simp
  unfold idxB
  cases hf : s.findIdx? (fun b => b == c) with
  | none =>
    rw [List.findIdx?_eq_none_iff] at hf
    have : c ∉ s := fun h => by have := hf c h; simp at this
    simp [this]
  | some i =>
    have h := List.findIdx?_eq_some_iff_getElem.1 hf
    obtain ⟨hi, h1, _⟩ := h
    have : c ∈ s := by
      have e : s[i] = c := by simpa using h1
      rw [← e]; exact List.getElem_mem hi
    simp [this]
end Go.Proofs.YthmnpnbcdoemfaaGreatDoor

namespace Go.Proofs.YthmnpnbcdoemfaaGreatDoor
open Go Go.Abs Go.Lex
set_option linter.unusedSimpArgs false
variable {G : Nat → Option AV}
theorem sliceIndex (l : List Bs) (s : Bs) (i c : Nat) (op : Bool) (H : AHeap) (hi : H.get i = some (.cells (l.map .str))) (hl : l.length ≤ 1000000) :
    Does Tryz.prog G 198 [.sl i 0 1 l.length c op, .str s] H fun r H' => (if l.contains s then ∃ k : Nat, r = .int .i64 k else r = .int .i64 (-1)) ∧ H' = H := by
  refine does_f Tryz.call198 Tryz.func198 rfl (by simp [Tryz.f198]) ?_
  simp
  refine aws_loop (fun m T' H' => ∃ a b, l = a ++ b ∧ m = b.length ∧ s ∉ a ∧ T' 0 = .sl i 0 1 l.length c op ∧ T' 1 = .str s ∧ T' 7 = .int .i64 l.length ∧ T' 8 = .int .i64 a.length ∧ H' = H) l.length ⟨[], l, rfl, rfl, by simp, by simp⟩ ?_
  rintro m T H' ⟨a, b, rfl, rfl, hn, h0, h1, h7, h8, rfl⟩
  simp only [List.length_append] at hl h0 h7
  cases b with
  | nil => simp [h0, h1, h7, h8, hn]
  | cons t b =>
    simp only [List.length_cons] at hl
    have hlt : (a.length : Int) < a.length + (b.length + 1) := by omega
    have hle : a.length ≤ a.length + (b.length + 1) := by omega
    have hw : IntKind.i64.wrap ((a.length : Int) + 1) = a.length + 1 := IntWalk.i64_in _ (by omega)
    have hd : List.drop a.length (List.map AV.str a) = [] := by rw [List.drop_of_length_le]; simp
    by_cases e : s = t
    · subst e
      simp [h0, h1, h7, h8, hi, hlt, hle, hw, hd]
      exact ⟨a.length, rfl⟩
    · have e1 : (s == t) = false := by simpa using e
      simp [h0, h1, h7, h8, hi, hlt, hle, hw, hd, e1]
      exact ⟨b.length, by omega, a ++ [t], b, by simp, rfl, by simp [hn, e], by simp⟩
theorem sliceContains (l : List Bs) (s : Bs) (i c : Nat) (op : Bool) (H : AHeap) (hi : H.get i = some (.cells (l.map .str))) (hl : l.length ≤ 1000000) :
    Does Tryz.prog G 161 [.sl i 0 1 l.length c op, .str s] H fun r H' => r = .bool (l.contains s) ∧ H' = H := by
  refine does_f Tryz.call161 Tryz.func161 rfl (by simp [Tryz.f161]) ?_
  simp
  refine does_use (sliceIndex l s i c op H hi hl) ?_
  rintro r _ ⟨hr, rfl⟩
  cases hc : l.contains s with
  | true =>
    rw [hc, if_pos rfl] at hr
    obtain ⟨k, rfl⟩ := hr
    simp
  | false =>
    rw [hc] at hr
    simp only [Bool.false_eq_true, if_false] at hr
    subst hr
    simp
set_option maxRecDepth 100000 in
theorem kept_does (s : Bs) (H : AHeap) : Does Tryz.prog G 108 [.str s] H fun r H' => r = .bool (kept s) ∧ H' = H := by
  refine Does.forgot (R := fun r H' => r = .bool (kept s) ∧ ∀ j x, H.get j = some x → H'.get j = some x) ?_ ?_
  · refine Does.wf Tryz.call108 fun hw _ => ?_
    have old : ∀ j x, H.get j = some x → j ≠ H.next := fun j x hj => by have := next_lt hw hj; omega
    refine does_f Tryz.call108 Tryz.func108 rfl (by simp [Tryz.f108]) ?_
    simp
    refine does_use (sliceContains keptWords s H.next 21 false (H.push (.cells (keptWords.map .str))) (by simp) (by decide)) ?_
    rintro _ _ ⟨rfl, rfl⟩
    simp [kept]
    intro j x hj
    simp [hj, old j x hj]
  · rintro hw ha r H1 ⟨rfl, h⟩
    exact ⟨h, rfl, rfl, rfl⟩
theorem while_does (s set : Bs) (p : UInt8 → Bool) (hp : ∀ b, set.contains b = p b) (hc : ∀ b ∈ set, b.toNat < 128) (hl : set.length ≤ 1000000) (h2 : 2 ≤ set.length) (hs : s.length ≤ 1000000) (H : AHeap) :
    Does Tryz.prog G 104 [.str s, .str set] H fun r H' => r = .int .i64 (s.takeWhile p).length ∧ H' = H := by
  refine does_f Tryz.call104 Tryz.func104 rfl (by simp [Tryz.f104]) ?_
  simp
  refine does_use (trimLeft s set p hp hc hl h2 H) ?_
  rintro _ _ ⟨rfl, rfl⟩
  have e : s.length = (s.takeWhile p).length + (s.dropWhile p).length := by rw [← List.length_append, List.takeWhile_append_dropWhile]
  have hw : IntKind.i64.wrap ((s.length : Int) - (s.dropWhile p).length) = (s.takeWhile p).length := by
    rw [IntWalk.i64_in _ (by omega)]; omega
  simp [hw]
set_option maxRecDepth 100000 in
theorem sign_does (s : Bs) (H : AHeap) : Does Tryz.prog G 110 [.str s] H fun r H' => (match signOf s with | some t => r = .tuple [.agg [.int .i64 4, .str t, .int .i64 0, .int .i64 0], .bool true] | none => r = .tuple [.agg [.int .i64 0, .str [], .int .i64 0, .int .i64 0], .bool false]) ∧ H' = H := by
  refine Does.forgot (R := fun r H' => (match signOf s with | some t => r = .tuple [.agg [.int .i64 4, .str t, .int .i64 0, .int .i64 0], .bool true] | none => r = .tuple [.agg [.int .i64 0, .str [], .int .i64 0, .int .i64 0], .bool false]) ∧ ∀ j x, H.get j = some x → H'.get j = some x) ?_ ?_
  · refine Does.wf Tryz.call110 fun hw _ => ?_
    have old : ∀ j x, H.get j = some x → j ≠ H.next ∧ j ≠ H.next + 1 := fun j x hj => by have := next_lt hw hj; omega
    have hkeep : ∀ x y, ∀ j z, H.get j = some z → ((H.push x).push y).get j = some z := fun x y j z hj => by simp [hj, old j z hj]
    refine does_f Tryz.call110 Tryz.func110 rfl (by simp [Tryz.f110]) ?_
    simp
    refine aws_loop (fun m T' H' => ∃ a b, signs = a ++ b ∧ m = b.length ∧ a.find? (fun x => x.isPrefixOf s) = none ∧ T' 0 = .str s ∧ T' 2 = .ptr H.next 0 ∧ T' 6 = .sl (H.next + 1) 0 1 16 16 false ∧ T' 7 = .int .i64 16 ∧ T' 8 = .int .i64 a.length ∧ T' 3 = .bool false ∧
      H' = (H.push (.cells [.int .i64 0, .str [], .int .i64 0, .int .i64 0])).push (.cells (signs.map .str))) 16 ⟨[], signs, rfl, rfl, rfl, by simp [signs]⟩ ?_
    rintro m T H' ⟨a, b, hab, rfl, hn, h0, h2, h6, h7, h8, h3, rfl⟩
    have hlen : a.length + b.length = 16 := by rw [← List.length_append, ← hab]; rfl
    cases b with
    | nil =>
      have ha : a.length = 16 := by simpa using hlen
      have hs : signOf s = none := by
        unfold signOf
        rw [hab, List.append_nil]; exact hn
      simp [h0, h2, h6, h7, h8, ha, hs]
      intro j x hj
      simp [hj, old j x hj]
    | cons t b =>
      simp only [List.length_cons] at hlen
      have hlt : (a.length : Int) < 16 := by omega
      have hlt2 : a.length ≤ 16 := by omega
      have hlt3 : a.length < 16 := by omega
      have hw1 : IntKind.i64.wrap ((a.length : Int) + 1) = a.length + 1 := IntWalk.i64_in _ (by omega)
      have hd : List.drop a.length (List.map AV.str signs) = .str t :: b.map .str := by
        rw [hab, List.map_append, List.drop_left' (by simp)]; rfl
      have hsl : signs.length = 16 := rfl
      simp [h0, h2, h6, h7, h8, hlt, hlt2, hlt3, hd, hsl]
      refine does_use (hasPrefix s t _) ?_
      rintro _ _ ⟨rfl, rfl⟩
      cases hp : t.isPrefixOf s with
      | true =>
        have hs : signOf s = some t := by
          unfold signOf
          rw [hab, List.find?_append, hn]
          simp [hp]
        simp [h0, h2, h6, h7, h8, hs]
        intro j x hj
        simp [hj, old j x hj]
      | false =>
        simp [h0, h2, h6, h7, h8, hw1]
        refine ⟨b.length, by omega, a ++ [t], b, by simp [hab], rfl, ?_, ?_⟩
        · rw [List.find?_eq_none] at hn
          intro x hx
          simp only [List.mem_append, List.mem_singleton] at hx
          rcases hx with hx | rfl
          · have := hn x hx
            rw [← List.isPrefixOf_iff_prefix]; simpa using this
          · rw [← List.isPrefixOf_iff_prefix, hp]; simp
        · simp [h3]
  · rintro hw ha r H1 ⟨hr, h⟩
    refine ⟨h, ?_, hr, rfl⟩
    cases hs : signOf s <;> rw [hs] at hr <;> subst hr <;> rfl
end Go.Proofs.YthmnpnbcdoemfaaGreatDoor

namespace Go.Proofs.YthmnpnbcdoemfaaGreatDoor
open Go Go.Abs Go.Lex
set_option linter.unusedSimpArgs false
variable {G : Nat → Option AV}
theorem drop_takeWhile (p : UInt8 → Bool) : ∀ s : Bs, s.drop (s.takeWhile p).length = s.dropWhile p
  | [] => rfl
  | b :: s => by
    rw [List.takeWhile_cons, List.dropWhile_cons]
    split
    · simpa using drop_takeWhile p s
    · rfl
theorem betw_line (s q : Bs) (h : s.dropWhile isBlank = 45 :: 45 :: q) : betw s = betw (q.dropWhile fun b => b != 10) := by
  rw [betw]
  split
  · rename_i q' h'
    rw [h] at h'
    simp only [List.cons.injEq, true_and] at h'
    rw [h']
  · rename_i h'
    exact absurd h (h' q)
theorem betw_word (s : Bs) (h : ([45, 45] : Bs).isPrefixOf (s.dropWhile isBlank) = false) : betw s = s.dropWhile isBlank := by
  rw [betw]
  split
  · rename_i q hq
    rw [hq] at h
    simp [List.isPrefixOf] at h
  · rfl
theorem betw_nil : betw [] = [] := betw_word [] rfl
@[simp] theorem take_drop_all {α : Type} (l : List α) (n : Nat) : List.take (l.length - n) (l.drop n) = l.drop n := by rw [List.take_of_length_le]; simp
theorem idxB_none {s : Bs} {c : UInt8} (h : s.findIdx? (fun b => b == c) = none) : s.dropWhile (fun b => b != c) = [] := by
  rw [List.findIdx?_eq_none_iff] at h
  induction s with
  | nil => rfl
  | cons b s ih =>
    rw [List.dropWhile_cons]
    have := h b (by simp)
    have e : (b != c) = true := by simp only [bne, this]; rfl
    rw [if_pos e]
    exact ih fun x hx => h x (by simp [hx])
theorem idxB_some {s : Bs} {c : UInt8} {i : Nat} (h : s.findIdx? (fun b => b == c) = some i) : s.dropWhile (fun b => b != c) = s.drop i ∧ i < s.length := by
  induction s generalizing i with
  | nil => simp at h
  | cons b s ih =>
    rw [List.findIdx?_cons] at h
    rw [List.dropWhile_cons]
    by_cases e : b = c
    · subst e
      simp at h
      subst h
      simp
    · have e1 : (b == c) = false := by simpa using e
      have e2 : (b != c) = true := by simp [bne, e1]
      rw [e1] at h
      simp only [Bool.false_eq_true, if_false, Option.map_eq_some_iff] at h
      obtain ⟨j, hj, rfl⟩ := h
      obtain ⟨h1, h2⟩ := ih hj
      rw [if_pos e2]
      exact ⟨by simpa using h1, by simp; omega⟩
theorem blankSet (b : UInt8) : ([32, 9, 10, 13] : Bs).contains b = isBlank b := by
  rw [Bool.eq_iff_iff]
  simp [isBlank, or_assoc]
theorem between_does (s : Bs) (hl : s.length ≤ 1000000) (H : AHeap) : Does Tryz.prog G 52 [.str s] H fun r H' => (∃ n : Nat, r = .int .i64 n ∧ n ≤ s.length ∧ s.drop n = betw s) ∧ H' = H := by
  refine does_f Tryz.call52 Tryz.func52 rfl (by simp [Tryz.f52]) ?_
  simp
  refine aws_loop (fun m T' H' => ∃ n : Nat, n ≤ s.length ∧ m = s.length - n ∧ betw (s.drop n) = betw s ∧ T' 0 = .str s ∧ T' 3 = .int .i64 n ∧ H' = H) s.length ⟨0, by omega, by omega, rfl, by simp⟩ ?_
  rintro m T H' ⟨n, hn, rfl, hb, h0, h3, rfl⟩
  have hn1 : (n : Int) ≤ s.length := by omega
  simp [h0, h3, hn, hn1]
  have hdl : (s.drop n).length = s.length - n := by simp
  refine does_use (while_does (s.drop n) _ isBlank blankSet (by decide) (by decide) (by decide) (by omega) _) ?_
  rintro _ _ ⟨rfl, rfl⟩
  have htl : ((s.drop n).takeWhile isBlank).length ≤ s.length - n := by
    rw [← hdl]; exact (List.takeWhile_prefix isBlank).length_le
  have hdd : s.drop (n + ((s.drop n).takeWhile isBlank).length) = (s.drop n).dropWhile isBlank := by
    rw [← List.drop_drop, drop_takeWhile]
  obtain ⟨k, hk⟩ : ∃ k, k = ((s.drop n).takeWhile isBlank).length := ⟨_, rfl⟩
  rw [← hk] at htl hdd ⊢
  obtain ⟨j, hj⟩ : ∃ j, j = n + k := ⟨_, rfl⟩
  have hw1 : IntKind.i64.wrap ((n : Int) + k) = (j : Int) := by rw [IntWalk.i64_in _ (by omega)]; omega
  have hk1 : (j : Int) ≤ s.length := by omega
  have hk2 : j ≤ s.length := by omega
  rw [← hj] at hdd
  simp [h0, h3, hw1, hk1, hk2]
  refine does_use (hasPrefix (s.drop j) [45, 45] _) ?_
  rintro _ _ ⟨rfl, rfl⟩
  cases hp : ([45, 45] : Bs).isPrefixOf (s.drop j) with
  | false =>
    simp [h0, h3]
    refine ⟨j, rfl, hk2, ?_⟩
    rw [← hb, betw_word _ (by rw [← hdd]; exact hp), hdd]
  | true =>
    simp [h0, h3, hk1, hk2]
    refine does_use (indexByte (s.drop j) 10 _) ?_
    rintro _ _ ⟨rfl, rfl⟩
    obtain ⟨q, hq⟩ : ∃ q, s.drop j = 45 :: 45 :: q := by
      rw [List.isPrefixOf_iff_prefix] at hp
      obtain ⟨t, ht⟩ := hp
      exact ⟨t, ht.symm⟩
    have hbq : betw s = betw ((s.drop j).dropWhile fun b => b != 10) := by
      rw [← hb, betw_line _ q (by rw [← hdd]; exact hq), hq]
      rfl
    unfold idxB
    cases hf : (s.drop j).findIdx? (fun b => b == 10) with
    | none =>
      simp [h0, h3]
      refine ⟨s.length, rfl, Nat.le_refl _, ?_⟩
      rw [hbq, idxB_none hf, betw_nil]; simp
    | some i =>
      obtain ⟨g1, g2⟩ := idxB_some hf
      have g3 : ¬ ((i : Int) < 0) := by omega
      have hi2 : 2 ≤ i := by
        rw [hq] at hf
        rw [List.findIdx?_cons, List.findIdx?_cons] at hf
        simp at hf
        omega
      simp only [List.length_drop] at g2
      have hw2 : IntKind.i64.wrap ((j : Int) + i) = ((j + i : Nat) : Int) := by rw [IntWalk.i64_in _ (by omega)]; omega
      simp [h0, h3, g3, hw2]
      refine ⟨s.length - (j + i), by omega, j + i, by omega, rfl, ?_, by omega⟩
      rw [hbq, g1, List.drop_drop]
end Go.Proofs.YthmnpnbcdoemfaaGreatDoor

namespace Go.Proofs.YthmnpnbcdoemfaaGreatDoor
open Go Go.Abs Go.Lex
set_option linter.unusedSimpArgs false
variable {G : Nat → Option AV}
theorem numVal_snoc (s : Bs) (b : UInt8) : numVal (s ++ [b]) = 10 * numVal s + (b.toNat - 48) := by simp [numVal]
theorem numVal_ge (a : Bs) : ∀ b : Bs, numVal a ≤ numVal (a ++ b) := by
  intro b
  induction b generalizing a with
  | nil => simp
  | cons c b ih =>
    have := ih (a ++ [c])
    rw [numVal_snoc, List.append_assoc] at this
    simp only [List.singleton_append] at this
    omega
theorem strCs_append' (a b : Bs) : strCs (a ++ b) = strCs a ++ strCs b := by simp [strCs]
theorem wrap_u64 (n : Int) (h0 : 0 ≤ n) (h1 : n < 18446744073709551616) : IntKind.u64.wrap n = n := by
  unfold IntKind.wrap
  simp only [IntKind.signed, IntKind.bits, Bool.false_and, Bool.false_eq_true, if_false]
  exact Int.emod_eq_of_lt h0 (by omega)
theorem wrap_u64' (n : Int) (h0 : 18446744073709551616 ≤ n) (h1 : n < 36893488147419103232) : IntKind.u64.wrap n = n - 18446744073709551616 := by
  unfold IntKind.wrap
  simp only [IntKind.signed, IntKind.bits, Bool.false_and, Bool.false_eq_true, if_false]
  omega
theorem wrap_u8 (n : Int) (h0 : 0 ≤ n) (h1 : n < 256) : IntKind.u8.wrap n = n := by
  unfold IntKind.wrap
  simp only [IntKind.signed, IntKind.bits, Bool.false_and, Bool.false_eq_true, if_false]
  exact Int.emod_eq_of_lt h0 (by omega)
@[simp] theorem concErr : Tryz.prog.concrete 302 = true := by kernel_rfl
@[simp] theorem concNum : Tryz.prog.concrete 305 = true := by kernel_rfl
def uintOf (s : Bs) : AV := if numVal s < 18446744073709551616 then .tuple [.int .u64 (numVal s), .niliface] else .tuple [.int .u64 18446744073709551615, .iface 302 (.int .i64 1)]
set_option maxRecDepth 100000 in
theorem parseUint (s : Bs) (hd : ∀ b ∈ s, isDigit b = true) (hs : s ≠ []) (hl : s.length ≤ 1000000) (H : AHeap) :
    Does Tryz.prog G 222 [.str s, .int .i64 10, .int .i64 64] H fun r H' => r = uintOf s ∧ H' = H := by
  refine Does.forgot (R := fun r H' => r = uintOf s ∧ ∀ j x, H.get j = some x → H'.get j = some x) ?_ ?_
  · refine Does.wf Tryz.call222 fun hw _ => ?_
    have old : ∀ j x, H.get j = some x → j ≠ H.next := fun j x hj => by have := next_lt hw hj; omega
    refine does_f Tryz.call222 Tryz.func222 rfl (by simp [Tryz.f222]) ?_
    have hs1 : s.isEmpty = false := by cases s <;> simp_all
    have e1 : IntKind.u64.wrap 64 = 64 := by decide
    have e2 : IntKind.u64.wrap (2 ^ min 64 IntKind.u64.bits) = 0 := by decide
    have e3 : IntKind.u64.wrap (-1) = 18446744073709551615 := by decide
    simp [hs1, e1, e2, e3]
    refine aws_loop (fun m T' H' => ∃ a b, s = a ++ b ∧ m = b.length ∧ numVal a < 18446744073709551616 ∧ T' 1 = .int .i64 10 ∧ T' 8 = .bool false ∧ T' 10 = .int .u64 1844674407370955162 ∧ T' 11 = .int .u64 18446744073709551615 ∧ T' 12 = .bool false ∧ T' 13 = .int .u64 (numVal a) ∧
      T' 99 = .sl H.next 0 1 s.length s.length true ∧ T' 100 = .int .i64 s.length ∧ T' 101 = .int .i64 a.length ∧ H' = H.push (.cells (strCs s))) s.length ⟨[], s, rfl, rfl, by decide, by simp [numVal, strCs]⟩ ?_
    rintro m T H' ⟨a, b, rfl, rfl, hv, h1, h8, h10, h11, h12, h13, h99, h100, h101, rfl⟩
    simp only [List.length_append] at hl h99 h100
    cases b with
    | nil =>
      simp [h1, h8, h10, h11, h12, h13, h99, h100, h101]
      refine ⟨?_, ?_⟩
      · simp [uintOf, hv]
      · intro j x hj
        simp [hj, old j x hj]
    | cons c b =>
      simp only [List.length_cons] at hl
      have hc := hd c (by simp)
      simp only [isDigit, Bool.and_eq_true, decide_eq_true_eq] at hc
      obtain ⟨hc1, hc2⟩ := hc
      obtain ⟨d, hdd⟩ : ∃ d, d = c.toNat - 48 := ⟨_, rfl⟩
      have hlt : (a.length : Int) < a.length + (b.length + 1) := by omega
      have hle : a.length ≤ a.length + (b.length + 1) := by omega
      have hw1 : IntKind.i64.wrap ((a.length : Int) + 1) = a.length + 1 := IntWalk.i64_in _ (by omega)
      have hdr : List.drop a.length (strCs (a ++ c :: b)) = .int .u8 c.toNat :: strCs b := by
        rw [strCs_append', List.drop_left' (by simp [strCs])]; rfl
      have hsl : (strCs (a ++ c :: b)).length = a.length + (b.length + 1) := by simp [strCs]
      have n1 : ¬ (c.toNat : Int) = 95 := by omega
      have n2 : (48 : Int) ≤ c.toNat := by omega
      have n3 : (c.toNat : Int) ≤ 57 := by omega
      have n4 : IntKind.u8.wrap ((c.toNat : Int) - 48) = d := by rw [wrap_u8 _ (by omega) (by omega)]; omega
      have n5 : IntKind.u8.wrap 10 = 10 := by decide
      have n6 : ¬ (10 : Int) ≤ d := by omega
      have n7 : IntKind.u64.wrap 10 = 10 := by decide
      have n8 : IntKind.u64.wrap (d : Int) = d := wrap_u64 _ (by omega) (by omega)
      have hn : numVal (a ++ [c]) = 10 * numVal a + d := by rw [numVal_snoc]; omega
      have hge := numVal_ge (a ++ [c]) b
      rw [List.append_assoc, List.singleton_append] at hge
      obtain ⟨v, hvv⟩ : ∃ v, v = numVal a := ⟨_, rfl⟩
      rw [← hvv] at hv h13 hn
      by_cases g1 : 1844674407370955162 ≤ v
      · have g1' : (1844674407370955162 : Int) ≤ v := by omega
        have hbig : ¬ numVal (a ++ c :: b) < 18446744073709551616 := by omega
        simp [h1, h8, h10, h11, h12, h13, h99, h100, h101, hlt, hle, hdr, hsl, n1, n2, n3, n4, n5, n6, n7, n8, g1']
        refine ⟨?_, ?_⟩
        · unfold uintOf; rw [if_neg hbig]
        · intro j x hj
          simp [hj, old j x hj]
      · have g1' : ¬ (1844674407370955162 : Int) ≤ v := by omega
        have m1 : IntKind.u64.wrap ((v : Int) * 10) = v * 10 := wrap_u64 _ (by omega) (by omega)
        by_cases g2 : 10 * v + d < 18446744073709551616
        · have m2 : IntKind.u64.wrap ((v : Int) * 10 + d) = v * 10 + d := wrap_u64 _ (by omega) (by omega)
          have m3 : ¬ ((v : Int) * 10 + d < v * 10) := by omega
          have m4 : ¬ ((18446744073709551615 : Int) < v * 10 + d) := by omega
          simp [h1, h8, h10, h11, h12, h13, h99, h100, h101, hlt, hle, hdr, hsl, n1, n2, n3, n4, n5, n6, n7, n8, g1', m1, m2, m3, m4, hw1]
          refine ⟨b.length, by omega, a ++ [c], b, by simp, rfl, by omega, ?_⟩
          simp [hn]
          omega
        · have m2 : IntKind.u64.wrap ((v : Int) * 10 + d) = v * 10 + d - 18446744073709551616 := wrap_u64' _ (by omega) (by omega)
          have m3 : ((v : Int) * 10 + d - 18446744073709551616 < v * 10) := by omega
          have hbig : ¬ numVal (a ++ c :: b) < 18446744073709551616 := by omega
          simp [h1, h8, h10, h11, h12, h13, h99, h100, h101, hlt, hle, hdr, hsl, n1, n2, n3, n4, n5, n6, n7, n8, g1', m1, m2, m3]
          refine ⟨?_, ?_⟩
          · unfold uintOf; rw [if_neg hbig]
          · intro j x hj
            simp [hj, old j x hj]
  · rintro hw ha r H1 ⟨rfl, h⟩
    refine ⟨h, ?_, rfl, rfl⟩
    unfold uintOf; split <;> rfl
end Go.Proofs.YthmnpnbcdoemfaaGreatDoor

namespace Go.Proofs.YthmnpnbcdoemfaaGreatDoor
open Go Go.Abs Go.Lex
set_option linter.unusedSimpArgs false
variable {G : Nat → Option AV}
theorem wrap_i64 (n : Int) (h0 : 0 ≤ n) (h1 : n < 9223372036854775808) : IntKind.i64.wrap n = n := IntWalk.i64_in _ (by omega)
def intOf (s : Bs) : AV := if numVal s < 9223372036854775808 then .tuple [.int .i64 (numVal s), .niliface] else .tuple [.int .i64 9223372036854775807, .iface 302 (.int .i64 1)]
set_option maxRecDepth 100000 in
theorem parseInt (s : Bs) (hd : ∀ b ∈ s, isDigit b = true) (hs : s ≠ []) (hl : s.length ≤ 1000000) (H : AHeap) :
    Does Tryz.prog G 199 [.str s, .int .i64 10, .int .i64 64] H fun r H' => r = intOf s ∧ H' = H := by
  refine does_f Tryz.call199 Tryz.func199 rfl (by simp [Tryz.f199]) ?_
  cases s with
  | nil => exact absurd rfl hs
  | cons c q =>
    have hc := hd c (by simp)
    simp only [isDigit, Bool.and_eq_true, decide_eq_true_eq] at hc
    have n1 : ¬ (c.toNat : Int) = 43 := by omega
    have n2 : ¬ (c.toNat : Int) = 45 := by omega
    have m1 : (0 : Int) < q.length + 1 := by omega
    simp [n1, n2, m1]
    refine does_use (parseUint (c :: q) hd hs hl H) ?_
    rintro _ _ ⟨rfl, rfl⟩
    have e1 : IntKind.u64.wrap 63 = 63 := by decide
    have e2 : IntKind.u64.wrap (2 ^ min 63 IntKind.u64.bits) = 9223372036854775808 := by decide
    have e3 : IntKind.u64.wrap 9223372036854775807 = 9223372036854775807 := by decide
    have e4 : IntKind.i64.wrap 9223372036854775807 = 9223372036854775807 := by decide
    have e5 : IntKind.i64.wrap 63 = 63 := by decide
    have e6 : Tryz.t302.comparable = true := by kernel_rfl
    obtain ⟨v, hv⟩ : ∃ v, v = numVal (c :: q) := ⟨_, rfl⟩
    unfold uintOf intOf
    rw [← hv]
    by_cases g1 : v < 9223372036854775808
    · have g2 : v < 18446744073709551616 := by omega
      have g3 : ¬ (9223372036854775808 : Int) ≤ v := by omega
      have g4 : IntKind.i64.wrap (v : Int) = v := wrap_i64 _ (by omega) (by omega)
      rw [if_pos g2, if_pos g1]
      simp [e1, e2, e3, e4, e5, e6, g3, g4]
    · rw [if_neg g1]
      by_cases g2 : v < 18446744073709551616
      · have g3 : (9223372036854775808 : Int) ≤ v := by omega
        rw [if_pos g2]
        simp [e1, e2, e3, e4, e5, e6, g3]
      · rw [if_neg g2]
        simp [e1, e2, e3, e4, e5, e6]
theorem mixedOrders : Tryz.prog.follows .mixedOrders = true := by kernel_rfl
def HasErr (G : Nat → Option AV) : Prop := ∃ t v, G 2 = some (.vptr [.iface t v])
set_option maxRecDepth 100000 in
theorem rangeError (s : Bs) (fn : Bs) (hl : s.length ≤ 1000000) (hG : HasErr G) (H : AHeap) : Does Tryz.prog G 224 [.str fn, .str s] H fun r H' => r = .ptr H.next 0 ∧ ∃ cs, H' = H.push (.cells cs) := by
  obtain ⟨et, ev, he⟩ := hG
  refine does_f Tryz.call224 Tryz.func224 rfl (by simp [Tryz.f224]) ?_
  simp
  refine aw_drawn [(3, 0), (3, 3)] ?_ ?_ ?_
  · exact mixedOrders
  · kernel_rfl
  intro es hes
  simp
  refine ⟨_, _, copy_does isCopy s (by omega) H, by simp, ?_⟩
  simp [he, rds, heapF]
  refine ⟨?_, _, rfl⟩
  subst hes
  exact ⟨by kernel_rfl, by kernel_rfl⟩
set_option maxRecDepth 100000 in
theorem toError (s : Bs) (fn : Bs) (hl : s.length ≤ 1000000) (hG : HasErr G) (H : AHeap) : Does Tryz.prog G 200 [.str fn, .str s, .int .i64 10, .int .i64 64, .iface 302 (.int .i64 1)] H fun r H' => r = .iface 305 (.ptr H.next 0) ∧ ∃ cs, H' = H.push (.cells cs) := by
  have e6 : Tryz.t302.comparable = true := by kernel_rfl
  refine does_f Tryz.call200 Tryz.func200 rfl (by simp [Tryz.f200]) ?_
  simp [e6]
  refine does_use (rangeError s fn hl hG H) ?_
  rintro _ _ ⟨rfl, cs, rfl⟩
  simp
  exact ⟨cs, rfl⟩
set_option maxRecDepth 100000 in
theorem parseInt' (s : Bs) (hd : ∀ b ∈ s, isDigit b = true) (hs : s ≠ []) (hl : s.length ≤ 1000000) (hG : HasErr G) (H : AHeap) :
    Does Tryz.prog G 162 [.str s, .int .i64 10, .int .i64 64] H fun r H' => (if numVal s < 9223372036854775808 then r = .tuple [.int .i64 (numVal s), .niliface] ∧ H' = H else r = .tuple [.int .i64 9223372036854775807, .iface 305 (.ptr H.next 0)] ∧ ∃ cs, H' = H.push (.cells cs)) := by
  refine does_f Tryz.call162 Tryz.func162 rfl (by simp [Tryz.f162]) ?_
  simp
  refine does_use (parseInt s hd hs hl H) ?_
  rintro _ _ ⟨rfl, rfl⟩
  unfold intOf
  by_cases h : numVal s < 9223372036854775808
  · rw [if_pos h]
    simp [h]
  · rw [if_neg h]
    simp [h]
    refine does_use (toError s _ hl hG _) ?_
    rintro _ _ ⟨rfl, cs, rfl⟩
    simp
    exact ⟨by omega, cs, rfl⟩
def numN (s : Bs) : Int := if numVal s < 9223372036854775808 then numVal s else 9223372036854775807
def numOk (s : Bs) : Bool := decide (numVal s < 9223372036854775808) && (decide (s.length = 1) || decide (s.head? ≠ some 48))
set_option maxRecDepth 100000 in
theorem number_does (s : Bs) (hd : ∀ b ∈ s, isDigit b = true) (hs : s ≠ []) (hl : s.length ≤ 1000000) (hG : HasErr G) (H : AHeap) :
    Does Tryz.prog G 109 [.str s] H fun r H' => r = .tuple [.agg [.int .i64 3, .str s, .int .i64 (numN s), .int .i64 0], .bool (numOk s)] ∧ H' = H := by
  refine Does.forgot (R := fun r H' => r = .tuple [.agg [.int .i64 3, .str s, .int .i64 (numN s), .int .i64 0], .bool (numOk s)] ∧ ∀ j x, H.get j = some x → H'.get j = some x) ?_ ?_
  · refine Does.wf Tryz.call109 fun hw _ => ?_
    have old : ∀ j x, H.get j = some x → j ≠ H.next ∧ j ≠ H.next + 1 := fun j x hj => by have := next_lt hw hj; omega
    refine does_f Tryz.call109 Tryz.func109 rfl (by simp [Tryz.f109]) ?_
    simp
    refine does_use (parseInt' s hd hs hl hG _) ?_
    rintro r H1 hr
    obtain ⟨c, q, rfl⟩ : ∃ c q, s = c :: q := by
      cases s with
      | nil => exact absurd rfl hs
      | cons c q => exact ⟨c, q, rfl⟩
    have h0 : (0 : Int) < q.length + 1 := by omega
    have hg : (if numVal (c :: q) < 9223372036854775808 then r = .tuple [.int .i64 (numVal (c :: q)), .niliface] else ∃ i, r = .tuple [.int .i64 9223372036854775807, .iface 305 (.ptr i 0)]) ∧ H1.get H.next = some (.cells [.int .i64 0, .str [], .int .i64 0, .int .i64 0]) ∧ ∀ j x, H.get j = some x → H1.get j = some x := by
      by_cases h : numVal (c :: q) < 9223372036854775808
      · rw [if_pos h] at hr ⊢
        obtain ⟨rfl, rfl⟩ := hr
        exact ⟨rfl, by simp, fun j x hj => by simp [hj, old j x hj]⟩
      · rw [if_neg h] at hr ⊢
        obtain ⟨rfl, cs, rfl⟩ := hr
        exact ⟨⟨_, rfl⟩, by simp, fun j x hj => by simp [hj, old j x hj]⟩
    clear hr
    obtain ⟨hr, hf, hk⟩ := hg
    have fin : ∀ j x, H.get j = some x → ∀ cs, (H1.set H.next (.cells cs)).get j = some x := fun j x hj cs => by
      simp only [AHeap.get_set]
      rw [if_neg (old j x hj).1]; exact hk j x hj
    by_cases h : numVal (c :: q) < 9223372036854775808
    · rw [if_pos h] at hr
      subst hr
      simp
      refine aw_drawn [] mixedOrders (by kernel_rfl) ?_
      intro es hes
      by_cases hq : q = []
      · subst hq
        simp [hf, rds]
        refine ⟨?_, ?_, fun j x hj => ?_⟩
        · subst hes
          exact ⟨by kernel_rfl, by kernel_rfl⟩
        · simp [numN, numOk, h]
        · simp [old j x hj, hk j x hj]
      · have hq0 : q.length ≠ 0 := by simpa using hq
        have hq1 : ¬ ((q.length : Int) + 1 = 1) := by omega
        have hq2 : ((c.toNat : Int) = 48) ↔ c = 48 := by
          constructor
          · intro e
            have e1 : c.toNat = (48 : UInt8).toNat := by simpa using (by omega : c.toNat = 48)
            exact UInt8.toNat_inj.1 e1
          · rintro rfl; rfl
        simp [hf, rds, hq, hq1, h0]
        refine ⟨?_, ?_, fun j x hj => ?_⟩
        · subst hes
          exact ⟨by kernel_rfl, by kernel_rfl⟩
        · have hq3 : ((c.toNat : Int) != 48) = !decide (c = 48) := by
            rw [Bool.eq_iff_iff]
            simp [hq2]
          simp [numN, numOk, h, hq, hq3]
        · simp [old j x hj, hk j x hj]
    · rw [if_neg h] at hr
      obtain ⟨i, rfl⟩ := hr
      simp
      refine aw_drawn [] mixedOrders (by kernel_rfl) ?_
      intro es hes
      simp [hf, rds]
      refine ⟨?_, ?_, fun j x hj => ?_⟩
      · subst hes
        exact ⟨by kernel_rfl, by kernel_rfl⟩
      · simp [numN, numOk, h]
      · simp [old j x hj, hk j x hj]
  · rintro hw ha r H1 ⟨rfl, h⟩
    exact ⟨h, rfl, rfl, rfl⟩
end Go.Proofs.YthmnpnbcdoemfaaGreatDoor

namespace Go.Proofs.YthmnpnbcdoemfaaGreatDoor
open Go Go.Abs Go.Lex
set_option linter.unusedSimpArgs false
variable {G : Nat → Option AV}
def lettersL : Bs := [97,98,99,100,101,102,103,104,105,106,107,108,109,110,111,112,113,114,115,116,117,118,119,120,121,122]
def digitsL : Bs := [48,49,50,51,52,53,54,55,56,57]
def namesL : Bs := [97,98,99,100,101,102,103,104,105,106,107,108,109,110,111,112,113,114,115,116,117,118,119,120,121,122,48,49,50,51,52,53,54,55,56,57,95]
theorem byAll (p q : UInt8 → Bool) (h : ∀ n : Fin 256, p (UInt8.ofNat n.val) = q (UInt8.ofNat n.val)) (b : UInt8) : p b = q b := by
  have := h ⟨b.toNat, b.toNat_lt⟩
  simpa using this
theorem letters_eq (b : UInt8) : lettersL.contains b = isLetter b := byAll _ _ (by decide +kernel) b
theorem digits_eq (b : UInt8) : digitsL.contains b = isDigit b := byAll _ _ (by decide +kernel) b
theorem names_eq (b : UInt8) : namesL.contains b = isNamec b := byAll _ _ (by decide +kernel) b
theorem take_takeWhile (p : UInt8 → Bool) (s : Bs) : s.take (s.takeWhile p).length = s.takeWhile p := by
  have := List.takeWhile_prefix p (l := s)
  rw [List.prefix_iff_eq_take] at this
  exact this.symm
def wdCells (w : Wd) (i : Nat) : List AV := [.int .i64 w.kind, .str w.text, .int .i64 w.n, .int .i64 i]
def WordIs (s : Bs) (r : AV) : Prop := match wordS s with
  | some w => r = .tuple [.agg (wdCells w 0), .bool true]
  | none => ∃ k t n, r = .tuple [.agg [.int .i64 k, .str t, .int .i64 n, .int .i64 0], .bool false]
set_option maxRecDepth 100000 in
theorem word_does (c : UInt8) (q : Bs) (hl : (c :: q).length ≤ 1000000) (hG : HasErr G) (H : AHeap) : Does Tryz.prog G 53 [.str (c :: q)] H fun r H' => WordIs (c :: q) r ∧ H' = H := by
  refine Does.forgot (R := fun r H' => WordIs (c :: q) r ∧ ∀ j x, H.get j = some x → H'.get j = some x) ?_ ?_
  · refine Does.wf Tryz.call53 fun hw _ => ?_
    have old : ∀ j x, H.get j = some x → j ≠ H.next ∧ j ≠ H.next + 1 := fun j x hj => by have := next_lt hw hj; omega
    refine does_f Tryz.call53 Tryz.func53 rfl (by simp [Tryz.f53]) ?_
    have m1 : (1 : Int) ≤ q.length + 1 := by omega
    simp [m1]
    refine does_use (contains1 lettersL c _) ?_
    rintro _ _ ⟨rfl, rfl⟩
    rw [letters_eq]
    cases hL : isLetter c with
    | true =>
      simp
      refine does_use (while_does (c :: q) namesL isNamec names_eq (by decide) (by decide) (by decide) hl _) ?_
      rintro _ _ ⟨rfl, rfl⟩
      have ht := take_takeWhile isNamec (c :: q)
      have hle : ((c :: q).takeWhile isNamec).length ≤ (c :: q).length := (List.takeWhile_prefix isNamec).length_le
      obtain ⟨t, htt⟩ : ∃ t, t = (c :: q).takeWhile isNamec := ⟨_, rfl⟩
      rw [← htt] at ht hle ⊢
      simp only [List.length_cons] at hle
      have hle' : (t.length : Int) ≤ q.length + 1 := by omega
      simp [hle, hle', ht]
      refine does_use (kept_does t _) ?_
      rintro _ _ ⟨rfl, rfl⟩
      cases hk : kept t with
      | true =>
        simp
        refine ⟨?_, ?_⟩
        · simp [WordIs, wordS, hL, ← htt, hk, wdCells]
        · intro j x hj
          simp [hj, old j x hj]
      | false =>
        simp
        refine ⟨?_, ?_⟩
        · by_cases h24 : t.length ≤ 24
          · have : (t.length : Int) ≤ 24 := by omega
            simp [WordIs, wordS, hL, ← htt, hk, wdCells, h24, this]
          · have : ¬ (t.length : Int) ≤ 24 := by omega
            simp [WordIs, wordS, hL, ← htt, hk, wdCells, h24, this]
        · intro j x hj
          simp [hj, old j x hj]
    | false =>
      simp
      refine does_use (contains1 digitsL c _) ?_
      rintro _ _ ⟨rfl, rfl⟩
      rw [digits_eq]
      cases hD : isDigit c with
      | true =>
        simp
        refine does_use (while_does (c :: q) digitsL isDigit digits_eq (by decide) (by decide) (by decide) hl _) ?_
        rintro _ _ ⟨rfl, rfl⟩
        have ht := take_takeWhile isDigit (c :: q)
        have hle : ((c :: q).takeWhile isDigit).length ≤ (c :: q).length := (List.takeWhile_prefix isDigit).length_le
        have hall : ∀ b ∈ (c :: q).takeWhile isDigit, isDigit b = true := fun b hb => List.all_eq_true.1 (List.all_takeWhile) b hb
        have hcons : (c :: q).takeWhile isDigit = c :: q.takeWhile isDigit := by rw [List.takeWhile_cons, if_pos hD]
        obtain ⟨t, htt⟩ : ∃ t, t = (c :: q).takeWhile isDigit := ⟨_, rfl⟩
        rw [← htt] at ht hle hall hcons ⊢
        simp only [List.length_cons] at hle hl
        have hle' : (t.length : Int) ≤ q.length + 1 := by omega
        simp [hle, hle', ht]
        refine does_use (number_does t hall (by rw [hcons]; simp) (by omega) hG _) ?_
        rintro _ _ ⟨rfl, rfl⟩
        simp
        refine ⟨?_, ?_⟩
        · have hh : t.head? = some c := by rw [hcons]; rfl
          unfold WordIs wordS numOk numN
          simp only [hL, hD, ← htt, hh]
          by_cases g1 : numVal t < 9223372036854775808
          · by_cases g2 : t.length = 1 ∨ c ≠ 48
            · rcases g2 with g2 | g2 <;> simp [g1, g2, wdCells]
            · simp only [not_or] at g2
              simp [g1, g2.1, Decidable.not_not.1 g2.2]
          · simp [g1]
        · intro j x hj
          simp [hj, old j x hj]
      | false =>
        simp
        refine does_use (sign_does (c :: q) _) ?_
        rintro r _ ⟨hr, rfl⟩
        cases hs : signOf (c :: q) with
        | some t =>
          rw [hs] at hr
          simp only at hr
          subst hr
          simp
          refine ⟨?_, ?_⟩
          · simp [WordIs, wordS, hL, hD, hs, wdCells]
          · intro j x hj
            simp [hj, old j x hj]
        | none =>
          rw [hs] at hr
          simp only at hr
          subst hr
          simp
          refine ⟨?_, ?_⟩
          · simp [WordIs, wordS, hL, hD, hs, wdCells]
          · intro j x hj
            simp [hj, old j x hj]
  · rintro hw ha r H1 ⟨hr, h⟩
    refine ⟨h, ?_, hr, rfl⟩
    unfold WordIs at hr
    split at hr
    · subst hr; rfl
    · obtain ⟨k, t, n, rfl⟩ := hr; rfl
end Go.Proofs.YthmnpnbcdoemfaaGreatDoor

namespace Go.Proofs.YthmnpnbcdoemfaaGreatDoor
open Go Go.Abs Go.Lex
set_option linter.unusedSimpArgs false
variable {G : Nat → Option AV}
def flatW : List (Nat × Wd) → List AV
  | [] => []
  | (i, w) :: l => wdCells w i ++ flatW l
theorem flatW_append (a b : List (Nat × Wd)) : flatW (a ++ b) = flatW a ++ flatW b := by
  induction a with
  | nil => rfl
  | cons x a ih => obtain ⟨i, w⟩ := x; simp [flatW, ih]
@[simp] theorem wdCells_length (w : Wd) (i : Nat) : (wdCells w i).length = 4 := rfl
@[simp] theorem flatW_length (l : List (Nat × Wd)) : (flatW l).length = l.length * 4 := by
  induction l with
  | nil => rfl
  | cons x l ih => obtain ⟨i, w⟩ := x; simp [flatW, ih]; omega
def cutAns (t : Bs) : AV := if 16384 < t.length then .tuple [.nilsl, .agg [.int .i64 2, .int .i64 t.length]] else match cutS t.length t with
  | .ok l => .tuple [.vsl (flatW l ++ [.int .i64 0, .str [], .int .i64 0, .int .i64 t.length]) (l.length + 1), .agg [.int .i64 0, .int .i64 0]]
  | .error e => .tuple [.nilsl, .agg [.int .i64 7, .int .i64 e]]
def Wrds (H : AHeap) (lo : Nat) (x : AV) (ws : List (Nat × Wd)) : Prop := (x = .nilsl ∧ ws = []) ∨ ∃ b, x = .sl b 0 4 ws.length ws.length true ∧ lo ≤ b ∧ H.get b = some (.cells (flatW ws))
def CutR (H : AHeap) (t : Bs) (r : AV) (H1 : AHeap) : Prop := (∀ j x, H.get j = some x → H1.get j = some x) ∧
  (if 16384 < t.length then r = .tuple [.nilsl, .agg [.int .i64 2, .int .i64 t.length]] else match cutS t.length t with
  | .ok l => ∃ b, H.next ≤ b ∧ r = .tuple [.sl b 0 4 (l.length + 1) (l.length + 1) true, .agg [.int .i64 0, .int .i64 0]] ∧ H1.get b = some (.cells (flatW l ++ [.int .i64 0, .str [], .int .i64 0, .int .i64 t.length]))
  | .error e => r = .tuple [.nilsl, .agg [.int .i64 7, .int .i64 e]])
theorem CutR.okEnd {H : AHeap} {t : Bs} {ws : List (Nat × Wd)} {H2 : AHeap} {b : Nat} (hL : ¬ 16384 < t.length) (hc : cutS t.length t = .ok ws) (hb : H.next ≤ b)
    (hg : H2.get b = some (.cells (flatW ws ++ [.int .i64 0, .str [], .int .i64 0, .int .i64 t.length]))) (hk : ∀ j x, H.get j = some x → H2.get j = some x) :
    CutR H t (.tuple [.sl b 0 4 (ws.length + 1) (ws.length + 1) true, .agg [.int .i64 0, .int .i64 0]]) H2 := by
  refine ⟨hk, ?_⟩
  rw [if_neg hL, hc]
  exact ⟨b, hb, rfl, hg⟩
theorem CutR.badEnd {H : AHeap} {t : Bs} {e : Nat} {H2 : AHeap} (hL : ¬ 16384 < t.length) (hc : cutS t.length t = .error e) (hk : ∀ j x, H.get j = some x → H2.get j = some x) :
    CutR H t (.tuple [.nilsl, .agg [.int .i64 7, .int .i64 e]]) H2 := by
  refine ⟨hk, ?_⟩
  rw [if_neg hL, hc]
set_option maxRecDepth 100000 in
theorem cut_live (t : Bs) (hG : HasErr G) (H : AHeap) (hbig : t.length < 9223372036854775808) : Does Tryz.prog G 20 [.str t] H (CutR H t) := by
  refine Does.wf Tryz.call20 fun hw _ => ?_
  have old : ∀ j x, H.get j = some x → j < H.next := fun j x hj => next_lt hw hj
  refine does_f Tryz.call20 Tryz.func20 rfl (by simp [Tryz.f20]) ?_
  by_cases hL : 16384 < t.length
  · have hL' : (16384 : Int) < t.length := by omega
    simp [hL']
    refine ⟨fun j x hj => ?_, by simp [hL]⟩
    have := old j x hj
    have h1 : j ≠ H.next := by omega
    simp [hj, h1]
  · have hL' : ¬ (16384 : Int) < t.length := by omega
    simp [hL']
    refine does_use (between_does t (by omega) _) ?_
    rintro _ _ ⟨⟨n, rfl, hn, hbn⟩, rfl⟩
    simp
    refine aws_loopw (fun m T' H' => ∃ (ws : List (Nat × Wd)) (rest : Bs) (n : Nat), cutS t.length t = aheadW ws (cutS t.length rest) ∧ n ≤ t.length ∧ t.drop n = betw rest ∧ m = t.length - n ∧ ws.length ≤ n ∧
      T' 0 = .str t ∧ T' 3 = .ptr H.next 0 ∧ T' 5 = .int .i64 n ∧ Wrds H' (H.next + 1) (T' 4) ws ∧ H'.get H.next = some (.cells [.int .i64 0, .int .i64 0]) ∧ (∀ j x, H.get j = some x → H'.get j = some x)) (t.length - n) ?_ ?_
    · refine ⟨[], t, n, ?_, hn, hbn, rfl, by simp, by simp, by simp, by simp, .inl ⟨by simp, rfl⟩, by simp, fun j x hj => ?_⟩
      · cases cutS t.length t <;> rfl
      · have := old j x hj
        have h1 : j ≠ H.next := by omega
        simp [hj, h1]
    rintro m T H1 ⟨ws, rest, n, hcut, hn, hbn, rfl, hws, h0, h3, h5, h4, hf, hkeep⟩ hw1 _
    have oldn : ∀ j x, H1.get j = some x → j < H1.next := fun j x hj => next_lt hw1 hj
    have hfn := oldn _ _ hf
    have hne : H.next ≠ H1.next := by omega
    have hne2 : H.next ≠ H1.next + 1 := by omega
    have hne3 : H.next ≠ H1.next + 1 + 1 := by omega
    have hgrow : ¬ (ws.length + 1 ≤ ws.length) := by omega
    have hws' : ws.length ≤ 16384 := by omega
    by_cases hend : n = t.length
    · subst hend
      have hnil : betw rest = [] := by rw [← hbn]; simp
      have hc : cutS t.length t = .ok ws := by rw [hcut, cutS_end hnil]; simp [aheadW]
      have hfin : ∀ j x, H.get j = some x → H1.get j = some x ∧ j ≠ H.next ∧ j ≠ H1.next ∧ j ≠ H1.next + 1 := fun j x hj => by
        have := old j x hj
        have := oldn j x (hkeep j x hj)
        exact ⟨hkeep j x hj, by omega, by omega, by omega⟩
      rcases h4 with ⟨h4, rfl⟩ | ⟨b, h4, hlo, hb⟩
      · simp [h0, h3, h4, h5, hf, hne, hne2, hne3]
        refine CutR.okEnd hL hc (by omega) (by simp [flatW, Ne.symm hne2]) fun j x hj => ?_
        obtain ⟨k1, k2, k3, k4⟩ := hfin j x hj
        simp [k1, k2, k3, k4]
      · have hbn' := oldn _ _ hb
        have hb1 : b ≠ H1.next := by omega
        have hb2 : H.next ≠ b := by omega
        have hl1 : (ws.length + 1) * 40 ≤ 140737488355328 := by omega
        have hl2 : ws.length ≤ 4611686018427387903 := by omega
        simp [h0, h3, h4, h5, hf, hne, hne2, hne3, hb, hb1, hb2, hgrow, hl1, hl2]
        have htk : List.take (ws.length * 4) (flatW ws) = flatW ws := by rw [List.take_of_length_le]; simp
        rw [htk]
        refine CutR.okEnd hL hc (by omega) (by simp [Ne.symm hne2]) fun j x hj => ?_
        obtain ⟨k1, k2, k3, k4⟩ := hfin j x hj
        have := old j x hj
        have k5 : j ≠ b := by omega
        simp [k1, k2, k3, k4, k5]
    · have hlt : (n : Int) < t.length := by omega
      have hn' : (n : Int) ≤ t.length := by omega
      obtain ⟨c, q, hcq⟩ : ∃ c q, t.drop n = c :: q := by
        cases h : t.drop n with
        | nil => rw [List.drop_eq_nil_iff] at h; omega
        | cons c q => exact ⟨c, q, rfl⟩
      have hlen : (c :: q).length = t.length - n := by rw [← hcq]; simp
      rw [hcq] at hbn
      have htk0 : List.take (t.length - n) (c :: q) = c :: q := by rw [List.take_of_length_le]; omega
      simp [h0, h3, h4, h5, hf, hlt, hn, hn', hcq, htk0]
      refine does_use (word_does c q (by omega) hG _) ?_
      rintro r H2 ⟨hr, e⟩
      subst e
      have hkeep2 : ∀ j x, H.get j = some x → H2.get j = some x ∧ j ≠ H.next ∧ j ≠ H2.next ∧ j ≠ H2.next + 1 ∧ j ≠ H2.next + 1 + 1 := fun j x hj => by
        have := old j x hj
        have := oldn j x (hkeep j x hj)
        exact ⟨hkeep j x hj, by omega, by omega, by omega, by omega⟩
      unfold WordIs at hr
      cases hwd : wordS (c :: q) with
      | none =>
        rw [hwd] at hr
        simp only at hr
        obtain ⟨k, tx, nn, rfl⟩ := hr
        have hc : cutS t.length t = .error n := by
          rw [hcut, cutS_bad hbn.symm hwd, hlen]
          simp only [aheadW]
          congr 1
          omega
        simp [h0, h3, h4, h5, hf, hne]
        refine CutR.badEnd hL hc fun j x hj => ?_
        obtain ⟨k1, k2, k3, k4, k5⟩ := hkeep2 j x hj
        simp [k1, k2, k3]
      | some w =>
        rw [hwd] at hr
        simp only at hr
        subst hr
        obtain ⟨hpre, htne⟩ := wordS_text hwd
        have hwl : w.text.length ≤ (c :: q).length := hpre.length_le
        have hwl0 : w.text.length ≠ 0 := by simpa using htne
        rw [hlen] at hwl
        have hw1 : IntKind.i64.wrap ((n : Int) + w.text.length) = ((n + w.text.length : Nat) : Int) := by rw [IntWalk.i64_in _ (by omega)]; omega
        have hn2 : ((n + w.text.length : Nat) : Int) ≤ t.length := by omega
        have hn3 : n + w.text.length ≤ t.length := by omega
        have hrest : t.drop (n + w.text.length) = (c :: q).drop w.text.length := by rw [← List.drop_drop, hcq]
        obtain ⟨n2, hn2'⟩ : ∃ n2, n2 = n + w.text.length := ⟨_, rfl⟩
        rw [← hn2'] at hw1 hn2 hn3 hrest
        have hcut2 : cutS t.length t = aheadW (ws ++ [(n, w)]) (cutS t.length (t.drop n2)) := by
          rw [hcut, cutS_word hbn.symm hwd, hrest, hlen]
          have e : t.length - (t.length - n) = n := by omega
          rw [e]
          cases cutS t.length ((c :: q).drop w.text.length) <;> simp [aheadW]
        rcases h4 with ⟨h4, rfl⟩ | ⟨b, h4, hlo, hb⟩
        · simp [h0, h3, h4, h5, hf, hne, hne2, hne3, wdCells, hw1, hn2, hn3]
          refine does_use (between_does (t.drop n2) (by simp; omega) _) ?_
          rintro _ _ ⟨⟨k, rfl, hk, hk2⟩, rfl⟩
          simp only [List.length_drop] at hk
          have hw2 : IntKind.i64.wrap ((n2 : Int) + k) = ((n2 + k : Nat) : Int) := by rw [IntWalk.i64_in _ (by omega)]; omega
          simp [h0, h3, h4, h5, hf, hne, hne2, hne3, hw2]
          refine ⟨t.length - (n2 + k), by omega, [(n, w)], t.drop n2, by simpa using hcut2, n2 + k, by omega, by rw [← List.drop_drop]; exact hk2, rfl, by simp; omega, by omega, .inr ⟨H2.next + 1 + 1, rfl, by omega, by simp [flatW, wdCells]⟩, fun j x hj => ?_⟩
          obtain ⟨k1, k2, k3, k4, k5⟩ := hkeep2 j x hj
          simp [k1, k3, k4, k5]
        · have hbn' := oldn _ _ hb
          have hb1 : b ≠ H2.next := by omega
          have hb2 : H.next ≠ b := by omega
          have hb3 : b ≠ H2.next + 1 := by omega
          have hl1 : (ws.length + 1) * 40 ≤ 140737488355328 := by omega
          have hl2 : ws.length ≤ 4611686018427387903 := by omega
          have hb4 : H2.next ≠ b := Ne.symm hb1
          have hb5 : H2.next ≠ H2.next + 1 + 1 := by omega
          have htk : List.take (ws.length * 4) (flatW ws) = flatW ws := by rw [List.take_of_length_le]; simp
          simp [h0, h3, h4, h5, hf, hne, hne2, hne3, wdCells, hw1, hn2, hn3, hb, hb1, hb2, hb3, hb4, hb5, hgrow, hl1, hl2, htk]
          refine does_use (between_does (t.drop n2) (by simp; omega) _) ?_
          rintro _ _ ⟨⟨k, rfl, hk, hk2⟩, rfl⟩
          simp only [List.length_drop] at hk
          have hw2 : IntKind.i64.wrap ((n2 : Int) + k) = ((n2 + k : Nat) : Int) := by rw [IntWalk.i64_in _ (by omega)]; omega
          simp [h0, h3, h4, h5, hf, hne, hne2, hne3, hw2]
          refine ⟨t.length - (n2 + k), by omega, ws ++ [(n, w)], t.drop n2, hcut2, n2 + k, by omega, by rw [← List.drop_drop]; exact hk2, rfl, by simp; omega, by omega, .inr ⟨H2.next + 1 + 1, by simp, by omega, by simp [flatW_append, flatW, wdCells]⟩, hb2, fun j x hj => ?_⟩
          obtain ⟨k1, k2, k3, k4, k5⟩ := hkeep2 j x hj
          have := old j x hj
          have k6 : j ≠ b := by omega
          simp [k1, k3, k4, k5, k6]
theorem flatW_lt (n : Nat) : ∀ l : List (Nat × Wd), AV.allLt n (flatW l) = true
  | [] => rfl
  | (i, w) :: l => by simp [flatW, wdCells, AV.allLt, AV.idLt, flatW_lt n l]
theorem allLt_app (n : Nat) (a b : List AV) : AV.allLt n (a ++ b) = (AV.allLt n a && AV.allLt n b) := AV.allLt_append a b
theorem cut_does (t : Bs) (hG : HasErr G) (H : AHeap) (hbig : t.length < 9223372036854775808) : Does Tryz.prog G 20 [.str t] H fun r H' => r = cutAns t ∧ H' = H := by
  by_cases hL : 16384 < t.length
  · refine Does.forgot (cut_live t hG H hbig) ?_
    rintro hw ha r H1 ⟨hk, hr⟩
    rw [if_pos hL] at hr
    subst hr
    exact ⟨hk, rfl, by simp [cutAns, hL], rfl⟩
  · cases hc : cutS t.length t with
    | error e =>
      refine Does.forgot (cut_live t hG H hbig) ?_
      rintro hw ha r H1 ⟨hk, hr⟩
      rw [if_neg hL, hc] at hr
      simp only at hr
      subst hr
      exact ⟨hk, rfl, by simp [cutAns, hL, hc], rfl⟩
    | ok l =>
      refine Does.frozen (cut_live t hG H hbig) ?_
      rintro hw ha r H1 ⟨hk, hr⟩
      rw [if_neg hL, hc] at hr
      obtain ⟨b, hb, rfl, hg⟩ := hr
      refine ⟨b, _, hb, hg, hk, ?_, ?_, rfl⟩
      · simp [AV.frz, AV.frzs, AV.idLt, AV.allLt]
        rw [List.take_of_length_le (by simp; omega)]
        simp [allLt_app, flatW_lt, AV.allLt, AV.idLt]
      · simp [AV.frz, AV.frzs, cutAns, hL, hc]
        rw [List.take_of_length_le (by simp; omega)]
end Go.Proofs.YthmnpnbcdoemfaaGreatDoor

namespace Go.Proofs.YthmnpnbcdoemfaaGreatDoor
open Go Go.Abs Go.Lex
set_option linter.unusedSimpArgs false
variable {G : Nat → Option AV}
mutual
def exCells : Syn.Ex → List AV
  | .mk op nm n p ks => [.str op, .str nm, .int .i64 n, .int .i64 p, if ks.isEmpty then .nilsl else .vsl (exsCells ks) ks.length]
def exsCells : List Syn.Ex → List AV
  | [] => []
  | e :: l => exCells e ++ exsCells l
end
def stCells (W : Syn.Ws) (s : Syn.St) : List AV := [.vsl (flatW W) W.length, .int .i64 s.i, .int .i64 s.names, .int .i64 s.parts, .int .i64 s.err, .int .i64 s.pos]
def PAt (H : AHeap) (p : Nat) (W : Syn.Ws) (s : Syn.St) : Prop := H.get p = some (.cells (stCells W s))
structure WsOk (W : Syn.Ws) : Prop where
  small : W.length ≤ 20000
  last : ∀ i, i < W.length → (W.getD i (0, ⟨0, [], 0⟩)).2.kind ≠ 0 → i + 1 < W.length
theorem flatW_at : ∀ (L : List (Nat × Wd)) (i : Nat), i < L.length → (flatW L).drop (i * 4) = wdCells (L.getD i (0, ⟨0, [], 0⟩)).2 (L.getD i (0, ⟨0, [], 0⟩)).1 ++ flatW (L.drop (i + 1))
  | [], i, h => by simp at h
  | (a, b) :: L, 0, _ => by simp [flatW]
  | (a, b) :: L, i + 1, h => by
    have := flatW_at L i (by simpa using h)
    rw [Nat.succ_mul]
    simp only [flatW, List.drop_succ_cons, List.getD_cons_succ]
    rw [← this, Nat.add_comm (i * 4) 4, ← List.drop_drop]
    rw [List.drop_left' (by simp)]
theorem set_same {H : AHeap} {p : Nat} {x : AObj} (h : H.get p = some x) : H.set p x = H := by
  refine AHeap.ext' rfl fun i => ?_
  simp only [AHeap.get_set]
  split
  · rename_i e; subst e; exact h.symm
  · rfl
set_option maxRecDepth 100000 in
theorem p_ok {W : Syn.Ws} {s : Syn.St} {p : Nat} {H : AHeap} (h : PAt H p W s) : Does Tryz.prog G 21 [.ptr p 0] H fun r H' => r = .bool (decide (s.err = 0)) ∧ H' = H := by
  refine does_f Tryz.call21 Tryz.func21 rfl (by simp [Tryz.f21]) ?_
  unfold PAt stCells at h
  simp [h]
set_option maxRecDepth 100000 in
theorem p_word {W : Syn.Ws} {s : Syn.St} {p : Nat} {H : AHeap} (h : PAt H p W s) (hi : s.i < W.length) : Does Tryz.prog G 22 [.ptr p 0] H fun r H' => r = .agg (wdCells (Syn.at_ W s).2 (Syn.at_ W s).1) ∧ H' = H := by
  refine Does.forgot (R := fun r H' => r = .agg (wdCells (Syn.at_ W s).2 (Syn.at_ W s).1) ∧ ∀ j x, H.get j = some x → H'.get j = some x) ?_ ?_
  · refine Does.wf Tryz.call22 fun hw _ => ?_
    have old : ∀ j x, H.get j = some x → j ≠ H.next := fun j x hj => by have := next_lt hw hj; omega
    refine does_f Tryz.call22 Tryz.func22 rfl (by simp [Tryz.f22]) ?_
    have hp := old _ _ h
    unfold PAt stCells at h
    have hi' : (s.i : Int) < W.length := by omega
    have hd : (flatW W).drop (s.i * 4) = wdCells (Syn.at_ W s).2 (Syn.at_ W s).1 ++ flatW (W.drop (s.i + 1)) := flatW_at W s.i hi
    simp
    refine aw_drawn [(3, 0), (7, 0), (9, 0)] mixedOrders (by kernel_rfl) ?_
    intro es hes
    simp [h, hp, hi, hi', hd, rds, heapF, wdCells]
    refine ⟨?_, ?_⟩
    · subst hes
      exact ⟨by kernel_rfl, by kernel_rfl⟩
    intro j x hj
    simp [hj, old j x hj]
  · rintro hw ha r H1 ⟨rfl, h⟩
    exact ⟨h, by simp [AV.idLt, AV.allLt, wdCells], rfl, rfl⟩
theorem text_beq (a b : Bs) : (a == b) = decide (a = b) := by
  rw [Bool.eq_iff_iff]; simp
set_option maxRecDepth 100000 in
theorem p_fail {W : Syn.Ws} {s : Syn.St} {p : Nat} {H : AHeap} (h : PAt H p W s) (hi : s.i < W.length) (e : Nat) : Does Tryz.prog G 23 [.ptr p 0, .int .i64 e] H fun r H' => r = .tuple [] ∧ H' = H.set p (.cells (stCells W (Syn.fail W e s))) := by
  refine does_f Tryz.call23 Tryz.func23 rfl (by simp [Tryz.f23]) ?_
  simp
  refine does_use (p_ok h) ?_
  rintro _ H1 ⟨rfl, rfl⟩
  by_cases h0 : s.err = 0
  · simp [h0]
    refine does_use (p_word h hi) ?_
    rintro _ H2 ⟨rfl, rfl⟩
    unfold PAt stCells at h
    simp [h, h0, wdCells, Syn.fail, stCells]
  · simp [h0, Syn.fail]
    exact (set_same h).symm
set_option maxRecDepth 100000 in
theorem p_is {W : Syn.Ws} {s : Syn.St} {p : Nat} {H : AHeap} (h : PAt H p W s) (hi : s.i < W.length) (t : Bs) : Does Tryz.prog G 112 [.ptr p 0, .str t] H fun r H' => r = .bool (Syn.is W s t) ∧ H' = H := by
  refine Does.forgot (R := fun r H' => r = .bool (Syn.is W s t) ∧ ∀ j x, H.get j = some x → H'.get j = some x) ?_ ?_
  · refine Does.wf Tryz.call112 fun hw _ => ?_
    have old : ∀ j x, H.get j = some x → j ≠ H.next := fun j x hj => by have := next_lt hw hj; omega
    refine does_f Tryz.call112 Tryz.func112 rfl (by simp [Tryz.f112]) ?_
    simp
    refine does_use (p_word h hi) ?_
    rintro _ H1 ⟨rfl, rfl⟩
    have hp := old _ _ h
    simp [wdCells]
    refine does_use (p_ok (W := W) (s := s) (by unfold PAt; simp [hp]; exact h)) ?_
    rintro _ H2 ⟨rfl, rfl⟩
    by_cases h0 : s.err = 0
    · by_cases h2 : (Syn.at_ W s).2.kind = 2
      · have h2' : (((Syn.at_ W s).2.kind : Nat) : Int) = 2 := by omega
        simp [h0, h2, h2', Syn.is, Syn.kind, Syn.text]
        intro j x hj
        simp [hj, old j x hj]
      · have h2' : ¬ (((Syn.at_ W s).2.kind : Nat) : Int) = 2 := by omega
        by_cases h4 : (Syn.at_ W s).2.kind = 4
        · have h4' : (((Syn.at_ W s).2.kind : Nat) : Int) = 4 := by omega
          simp [h0, h2, h2', h4, h4', Syn.is, Syn.kind, Syn.text]
          intro j x hj
          simp [hj, old j x hj]
        · have h4' : ¬ (((Syn.at_ W s).2.kind : Nat) : Int) = 4 := by omega
          simp [h0, h2, h2', h4, h4', Syn.is, Syn.kind, Syn.text]
          intro j x hj
          simp [hj, old j x hj]
    · simp [h0, Syn.is]
      intro j x hj
      simp [hj, old j x hj]
  · rintro hw ha r H1 ⟨rfl, h⟩
    exact ⟨h, by simp [AV.idLt], rfl, rfl⟩
end Go.Proofs.YthmnpnbcdoemfaaGreatDoor

namespace Go.Proofs.YthmnpnbcdoemfaaGreatDoor
open Go Go.Abs Go.Lex
set_option linter.unusedSimpArgs false
variable {G : Nat → Option AV}
theorem wrap_eq (n : Int) : IntKind.i64.wrap n = Syn.wrap n := by rw [IntKind.wrap_i64]; rfl
theorem is_kind {W : Syn.Ws} {s : Syn.St} {t : Bs} (h : Syn.is W s t = true) : s.err = 0 ∧ (Syn.at_ W s).2.kind ≠ 0 := by
  simp only [Syn.is, Syn.kind, Bool.and_eq_true, Bool.or_eq_true, beq_iff_eq] at h
  exact ⟨h.1, by omega⟩
theorem one_kind {W : Syn.Ws} {s : Syn.St} {ts : List Bs} (h : Syn.one W s ts = true) : s.err = 0 ∧ (Syn.at_ W s).2.kind ≠ 0 := by
  simp only [Syn.one, List.any_eq_true] at h
  obtain ⟨t, _, h⟩ := h
  exact is_kind h
theorem ok_succ {W : Syn.Ws} (hW : WsOk W) {s : Syn.St} (hi : s.i < W.length) (hk : (Syn.at_ W s).2.kind ≠ 0) : s.i + 1 < W.length := hW.last s.i hi hk
theorem fail_i (W : Syn.Ws) (e : Nat) (s : Syn.St) : (Syn.fail W e s).i = s.i := by unfold Syn.fail; split <;> rfl
theorem want1_ok {W : Syn.Ws} (hW : WsOk W) {s : Syn.St} (hi : s.i < W.length) (t : Bs) : (Syn.want1 W s t).i < W.length := by
  unfold Syn.want1
  split
  · rename_i h; exact ok_succ hW hi (is_kind h).2
  · rw [fail_i]; exact hi
theorem want_ok {W : Syn.Ws} (hW : WsOk W) : ∀ (ts : List Bs) {s : Syn.St}, s.i < W.length → (Syn.want W s ts).i < W.length
  | [], _, h => h
  | t :: ts, _, h => want_ok hW ts (want1_ok hW h t)
theorem take_ok {W : Syn.Ws} (hW : WsOk W) {s : Syn.St} (hi : s.i < W.length) (t : Bs) : (Syn.take W s t).2.i < W.length := by
  unfold Syn.take
  split
  · rename_i h; exact ok_succ hW hi (is_kind h).2
  · exact hi
theorem part_ok {W : Syn.Ws} (hW : WsOk W) {s : Syn.St} (hi : s.i < W.length) (hk : (Syn.at_ W s).2.kind ≠ 0) : (Syn.part W s).i < W.length := by
  have h := ok_succ hW hi hk
  unfold Syn.part
  simp only
  by_cases hc : 300 < Syn.wrap (s.parts + 1)
  · simp only [hc, if_true]
    split <;> simp only [fail_i] <;> omega
  · simp only [hc, if_false]
    split <;> omega
theorem deeper_i (W : Syn.Ws) (b : Bool) (s : Syn.St) : (Syn.deeper W b s).2.i = s.i := by
  unfold Syn.deeper
  simp only
  split
  · exact fail_i W 2 s
  · rfl
theorem name_ok {W : Syn.Ws} (hW : WsOk W) {s : Syn.St} (hi : s.i < W.length) : (Syn.name W s).2.i < W.length := by
  unfold Syn.name
  simp only
  by_cases h1 : Syn.kind W s = 1
  · rw [if_pos h1]
    split
    · exact ok_succ hW hi (by unfold Syn.kind at h1; omega)
    · exact hi
  · rw [if_neg h1]
    split
    · rename_i h
      unfold Syn.fail at h
      split at h
      · simp at h
      · rename_i h2; exact absurd h h2
    · rw [fail_i]; exact hi
theorem PAt.set {H : AHeap} {p : Nat} {W : Syn.Ws} (s : Syn.St) : PAt (H.set p (.cells (stCells W s))) p W s := by unfold PAt; simp
theorem PAt.ext {H H' : AHeap} {p : Nat} {W : Syn.Ws} {s : Syn.St} (h : PAt H p W s) (hg : H'.get p = H.get p) : PAt H' p W s := hg.trans h
theorem stCells_lt (n : Nat) (W : Syn.Ws) (s : Syn.St) : AV.allLt n (stCells W s) = true := by
  simp [stCells, AV.allLt, AV.idLt, flatW_lt]
theorem set_back {W : Syn.Ws} {s s' : Syn.St} {p : Nat} {H H1 : AHeap} (hw : H.Wf) (h : PAt H p W s) (h1 : H1.get p = some (.cells (stCells W s'))) (h2 : ∀ j x, j ≠ p → H.get j = some x → H1.get j = some x) :
    ∀ i x, (H.set p (.cells (stCells W s'))).get i = some x → H1.get i = some x ∧ i < H.next ∧ AV.allLt H.next x.cellsList = true := by
  intro i x hi
  simp only [AHeap.get_set] at hi
  split at hi
  · rename_i e; subst e
    simp only [Option.some.injEq] at hi; subst hi
    exact ⟨h1, next_lt hw h, stCells_lt _ _ _⟩
  · rename_i e
    exact ⟨h2 i x e hi, (hw i x hi).1, (hw i x hi).2⟩
set_option maxRecDepth 100000 in
theorem p_index {W : Syn.Ws} {s : Syn.St} {p : Nat} {H : AHeap} (h : PAt H p W s) (hi : s.i < W.length) (ts : List Bs) (j cap : Nat) (op : Bool) (hj : H.get j = some (.cells (ts.map .str))) (hl : ts.length ≤ 1000) :
    Does Tryz.prog G 91 [.sl j 0 1 ts.length cap op, .func (.func 112) [.ptr p 0] []] H fun r H' => (∃ n : Int, r = .int .i64 n ∧ (0 ≤ n ↔ Syn.one W s ts = true)) ∧ H' = H := by
  refine does_f Tryz.call91 Tryz.func91 rfl (by simp [Tryz.f91]) ?_
  simp
  refine aws_loop (fun m T' H' => ∃ a b, ts = a ++ b ∧ m = b.length ∧ (∀ y ∈ a, Syn.is W s y = false) ∧ T' 0 = .sl j 0 1 ts.length cap op ∧ T' 1 = .func (.func 112) [.ptr p 0] [] ∧ T' 7 = .int .i64 ts.length ∧ T' 8 = .int .i64 a.length ∧ H' = H) ts.length ⟨[], ts, rfl, rfl, by simp, by simp, by simp, by simp, by simp, rfl⟩ ?_
  rintro m T H1 ⟨a, b, hab, rfl, hn, t0, t1, t7, t8, rfl⟩
  have hlen : a.length + b.length = ts.length := by rw [← List.length_append, ← hab]
  cases b with
  | nil =>
    have ha : a.length = ts.length := by simpa using hlen
    have hone : Syn.one W s ts = false := by
      rw [Syn.one, hab, List.append_nil, List.any_eq_false]
      intro x hx; rw [hn x hx]; simp
    simp [t0, t1, t7, t8, ha, hone]
  | cons t b =>
    simp only [List.length_cons] at hlen
    have hlt : (a.length : Int) < ts.length := by omega
    have hlt2 : a.length < ts.length := by omega
    have hlt3 : a.length ≤ ts.length := by omega
    have hw1 : IntKind.i64.wrap ((a.length : Int) + 1) = a.length + 1 := IntWalk.i64_in _ (by omega)
    have hd : List.drop a.length (List.map AV.str ts) = .str t :: b.map .str := by
      rw [hab, List.map_append, List.drop_left' (by simp)]; rfl
    simp [t0, t1, t7, t8, hlt, hlt2, hlt3, hd, hj]
    refine does_use (p_is h hi t) ?_
    rintro _ H2 ⟨rfl, rfl⟩
    by_cases ht : Syn.is W s t = true
    · have hone : Syn.one W s ts = true := by
        rw [Syn.one, List.any_eq_true]
        exact ⟨t, by rw [hab]; simp, ht⟩
      simp [ht, hone]
    · have ht' : Syn.is W s t = false := by simpa using ht
      simp [ht', t0, t1, t7, t8, hw1]
      refine ⟨b.length, by omega, a ++ [t], b, by simp [hab], rfl, ?_, by simp⟩
      intro y hy
      simp at hy
      rcases hy with hy | rfl
      · exact hn y hy
      · exact ht'
set_option maxRecDepth 100000 in
theorem p_contains {W : Syn.Ws} {s : Syn.St} {p : Nat} {H : AHeap} (h : PAt H p W s) (hi : s.i < W.length) (ts : List Bs) (j cap : Nat) (op : Bool) (hj : H.get j = some (.cells (ts.map .str))) (hl : ts.length ≤ 1000) :
    Does Tryz.prog G 89 [.sl j 0 1 ts.length cap op, .func (.func 112) [.ptr p 0] []] H fun r H' => r = .bool (Syn.one W s ts) ∧ H' = H := by
  refine does_f Tryz.call89 Tryz.func89 rfl (by simp [Tryz.f89]) ?_
  simp
  refine does_use (p_index h hi ts j cap op hj hl) ?_
  rintro _ H1 ⟨⟨n, rfl, hn⟩, rfl⟩
  simp
  rw [Bool.eq_iff_iff, decide_eq_true_eq, hn]
set_option maxRecDepth 100000 in
theorem p_one {W : Syn.Ws} {s : Syn.St} {p : Nat} {H : AHeap} (h : PAt H p W s) (hi : s.i < W.length) (ts : List Bs) (j cap : Nat) (op : Bool) (hj : H.get j = some (.cells (ts.map .str))) (hl : ts.length ≤ 1000) :
    Does Tryz.prog G 201 [.ptr p 0, .sl j 0 1 ts.length cap op] H fun r H' => r = .bool (Syn.one W s ts) ∧ H' = H := by
  refine does_f Tryz.call201 Tryz.func201 rfl (by simp [Tryz.f201]) ?_
  simp
  refine does_use (p_contains h hi ts j cap op hj hl) ?_
  rintro _ H1 ⟨rfl, rfl⟩
  simp
set_option maxRecDepth 100000 in
theorem p_take {W : Syn.Ws} (hW : WsOk W) {s : Syn.St} {p : Nat} {H : AHeap} (h : PAt H p W s) (hi : s.i < W.length) (t : Bs) : Does Tryz.prog G 57 [.ptr p 0, .str t] H fun r H' => r = .bool (Syn.take W s t).1 ∧ H' = H.set p (.cells (stCells W (Syn.take W s t).2)) := by
  refine does_f Tryz.call57 Tryz.func57 rfl (by simp [Tryz.f57]) ?_
  simp
  refine does_use (p_is h hi t) ?_
  rintro _ H1 ⟨rfl, rfl⟩
  have hsm := hW.small
  have hw1 : IntKind.i64.wrap ((s.i : Int) + 1) = s.i + 1 := IntWalk.i64_in _ (by omega)
  by_cases ht : Syn.is W s t = true
  · unfold PAt stCells at h
    simp [ht, Syn.take, h, hw1, stCells]
  · have ht' : Syn.is W s t = false := by simpa using ht
    simp [ht', Syn.take]
    exact (set_same h).symm
set_option maxRecDepth 100000 in
theorem p_want {W : Syn.Ws} (hW : WsOk W) {s : Syn.St} {p : Nat} {H : AHeap} (h : PAt H p W s) (hi : s.i < W.length) (ts : List Bs) (j cap : Nat) (op : Bool) (hj : H.get j = some (.cells (ts.map .str))) (hjp : j ≠ p) (hl : ts.length ≤ 1000) :
    Does Tryz.prog G 54 [.ptr p 0, .sl j 0 1 ts.length cap op] H fun r H' => r = .tuple [] ∧ H' = H.set p (.cells (stCells W (Syn.want W s ts))) := by
  refine does_f Tryz.call54 Tryz.func54 rfl (by simp [Tryz.f54]) ?_
  simp
  refine aws_loop (fun m T' H' => ∃ a b, ts = a ++ b ∧ m = b.length ∧ T' 0 = .ptr p 0 ∧ T' 6 = .sl j 0 1 ts.length cap op ∧ T' 7 = .int .i64 ts.length ∧ T' 8 = .int .i64 a.length ∧ H' = H.set p (.cells (stCells W (Syn.want W s a)))) ts.length ⟨[], ts, rfl, rfl, by simp, by simp, by simp, by simp, by simp [Syn.want]; exact (set_same h).symm⟩ ?_
  rintro m T H1 ⟨a, b, hab, rfl, t0, t6, t7, t8, rfl⟩
  have hlen : a.length + b.length = ts.length := by rw [← List.length_append, ← hab]
  cases b with
  | nil =>
    have ha : a.length = ts.length := by simpa using hlen
    rw [List.append_nil] at hab
    subst hab
    simp [t0, t6, t7, t8]
  | cons t b =>
    simp only [List.length_cons] at hlen
    have hlt : (a.length : Int) < ts.length := by omega
    have hlt2 : a.length < ts.length := by omega
    have hlt3 : a.length ≤ ts.length := by omega
    have hw1 : IntKind.i64.wrap ((a.length : Int) + 1) = a.length + 1 := IntWalk.i64_in _ (by omega)
    have hd : List.drop a.length (List.map AV.str ts) = .str t :: b.map .str := by
      rw [hab, List.map_append, List.drop_left' (by simp)]; rfl
    have hia := want_ok hW a hi
    have hst : Syn.want W s (a ++ [t]) = Syn.want1 W (Syn.want W s a) t := by simp [Syn.want]
    simp [t0, t6, t7, t8, hlt, hlt2, hlt3, hd, hj, hjp]
    refine does_use (p_take hW (PAt.set _) hia t) ?_
    rintro _ H2 ⟨rfl, rfl⟩
    simp
    by_cases ht : Syn.is W (Syn.want W s a) t = true
    · simp [ht, Syn.take, t0, t6, t7, t8, hw1]
      exact ⟨b.length, by omega, a ++ [t], b, by simp [hab], rfl, by simp, by rw [hst, Syn.want1, if_pos ht]⟩
    · have ht' : Syn.is W (Syn.want W s a) t = false := by simpa using ht
      simp [ht', Syn.take, t0, t6, t7, t8, hw1]
      refine does_use (p_fail (PAt.set _) hia 7) ?_
      rintro _ H3 ⟨rfl, rfl⟩
      simp [t0, t6, t7, t8, hw1]
      exact ⟨b.length, by omega, a ++ [t], b, by simp [hab], rfl, by simp, by rw [hst, Syn.want1, if_neg ht]⟩
set_option maxRecDepth 100000 in
theorem p_deeper {W : Syn.Ws} {s : Syn.St} {p : Nat} {H : AHeap} (h : PAt H p W s) (hi : s.i < W.length) (d : Int) : Does Tryz.prog G 165 [.ptr p 0, .int .i64 d] H fun r H' => r = .bool (Syn.deeper W (decide (d = 30)) s).1 ∧ H' = H.set p (.cells (stCells W (Syn.deeper W (decide (d = 30)) s).2)) := by
  refine does_f Tryz.call165 Tryz.func165 rfl (by simp [Tryz.f165]) ?_
  by_cases hd : d = 30
  · simp [hd]
    refine does_use (p_fail h hi 2) ?_
    rintro _ H1 ⟨rfl, rfl⟩
    simp
    refine does_use (p_ok (PAt.set _)) ?_
    rintro _ H2 ⟨rfl, rfl⟩
    subst hd
    simp [Syn.deeper]
  · simp [hd]
    refine does_use (p_ok h) ?_
    rintro _ H2 ⟨rfl, rfl⟩
    simp [Syn.deeper, hd]
    exact (set_same h).symm
set_option maxRecDepth 100000 in
theorem p_part {W : Syn.Ws} (hW : WsOk W) {s : Syn.St} {p : Nat} {H : AHeap} (h : PAt H p W s) (hi : s.i < W.length) : Does Tryz.prog G 164 [.ptr p 0] H fun r H' => r = .agg (wdCells (Syn.at_ W s).2 (Syn.at_ W s).1) ∧ H' = H.set p (.cells (stCells W (Syn.part W s))) := by
  refine Does.deep (R := fun r H' => r = .agg (wdCells (Syn.at_ W s).2 (Syn.at_ W s).1) ∧ H'.get p = some (.cells (stCells W (Syn.part W s))) ∧ ∀ j x, j ≠ p → H.get j = some x → H'.get j = some x) ?_ ?_
  · refine Does.wf Tryz.call164 fun hw _ => ?_
    have old : ∀ j x, H.get j = some x → j ≠ H.next ∧ j ≠ H.next + 1 := fun j x hj => by have := next_lt hw hj; omega
    refine does_f Tryz.call164 Tryz.func164 rfl (by simp [Tryz.f164]) ?_
    obtain ⟨hp1, hp2⟩ := old _ _ h
    have hsm := hW.small
    have hw1 : IntKind.i64.wrap ((s.i : Int) + 1) = s.i + 1 := IntWalk.i64_in _ (by omega)
    have hw2 : IntKind.i64.wrap (s.parts + 1) = Syn.wrap (s.parts + 1) := wrap_eq _
    simp
    refine does_use (p_word (W := W) (s := s) (by unfold PAt; simp [hp1]; exact h) hi) ?_
    rintro _ H1 ⟨rfl, rfl⟩
    have h' := h
    unfold PAt stCells at h'
    by_cases hc : 300 < Syn.wrap (s.parts + 1)
    · simp [wdCells, h', hp1, hp2, hw2, hc]
      refine does_use (p_fail (W := W) (s := { s with parts := Syn.wrap (s.parts + 1) }) (by unfold PAt stCells; simp) hi 2) ?_
      rintro _ H2 ⟨rfl, rfl⟩
      simp
      refine does_use (p_ok (PAt.set _)) ?_
      rintro _ H3 ⟨rfl, rfl⟩
      by_cases h0 : (Syn.fail W 2 { s with parts := Syn.wrap (s.parts + 1) }).err = 0
      · exact absurd h0 (by unfold Syn.fail; split <;> simp_all)
      · simp [h0, Syn.part, hc, hp1, hp2, Ne.symm hp1, Ne.symm hp2]
        refine ⟨rfl, fun j x hjp hj => ?_⟩
        obtain ⟨k1, k2⟩ := old j x hj
        simp [hj, hjp, k1, k2]
    · simp [wdCells, h', hp1, hp2, hw2, hc]
      refine does_use (p_ok (W := W) (s := { s with parts := Syn.wrap (s.parts + 1) }) (by unfold PAt stCells; simp)) ?_
      rintro _ H3 ⟨rfl, rfl⟩
      by_cases h0 : s.err = 0
      · simp [h0, Syn.part, hc, hp1, hp2, Ne.symm hp1, Ne.symm hp2, hw1, stCells]
        refine ⟨rfl, fun j x hjp hj => ?_⟩
        obtain ⟨k1, k2⟩ := old j x hj
        simp [hj, hjp, k1, k2]
      · simp [h0, Syn.part, hc, hp1, hp2, Ne.symm hp1, Ne.symm hp2, hw1, stCells]
        refine ⟨rfl, fun j x hjp hj => ?_⟩
        obtain ⟨k1, k2⟩ := old j x hj
        simp [hj, hjp, k1, k2]
  · rintro hw ha r H1 ⟨rfl, h1, h2⟩
    exact ⟨_, H.set p (.cells (stCells W (Syn.part W s))), .old (by simp [AV.idLt, AV.allLt, wdCells]), rfl, set_back hw h h1 h2, rfl, rfl⟩
end Go.Proofs.YthmnpnbcdoemfaaGreatDoor

namespace Go.Proofs.YthmnpnbcdoemfaaGreatDoor
open Go Go.Abs Go.Lex
set_option linter.unusedSimpArgs false
variable {G : Nat → Option AV}
def kidsV (ks : List Syn.Ex) : AV := if ks.isEmpty then .nilsl else .vsl (exsCells ks) ks.length
@[simp] theorem kidsV_scalar (ks : List Syn.Ex) : (kidsV ks).scalar = true := by unfold kidsV; split <;> rfl
@[simp] theorem kidsV_cells (ks : List Syn.Ex) : (kidsV ks).cells = [kidsV ks] := by unfold kidsV; split <;> rfl
theorem exCells_mk (op nm : Bs) (n p : Nat) (ks : List Syn.Ex) : exCells (.mk op nm n p ks) = [.str op, .str nm, .int .i64 n, .int .i64 p, kidsV ks] := by
  simp only [exCells, kidsV]
mutual
theorem exCells_lt (m : Nat) : ∀ e : Syn.Ex, AV.allLt m (exCells e) = true
  | .mk op nm n p ks => by
    have h := exsCells_lt m ks
    rw [exCells_mk]
    unfold kidsV
    split <;> simp [AV.allLt, AV.idLt, h]
theorem exsCells_lt (m : Nat) : ∀ l : List Syn.Ex, AV.allLt m (exsCells l) = true
  | [] => rfl
  | e :: l => by rw [exsCells, allLt_app, exCells_lt m e, exsCells_lt m l]; rfl
end
theorem kidsV_lt (m : Nat) (ks : List Syn.Ex) : (kidsV ks).idLt m = true := by
  unfold kidsV
  split
  · rfl
  · simpa [AV.idLt] using exsCells_lt m ks
def PRes (H : AHeap) (p : Nat) (W : Syn.Ws) (x : Syn.Ex × Syn.St) (r : AV) (H' : AHeap) : Prop :=
  ResV H'.get H.next r (.agg (exCells x.1)) ∧ H'.get p = some (.cells (stCells W x.2)) ∧ ∀ j y, j ≠ p → H.get j = some y → H'.get j = some y
theorem PRes.deep {f : FuncId} {args : List AV} {H : AHeap} {p : Nat} {W : Syn.Ws} {s : Syn.St} {x : Syn.Ex × Syn.St} (h : PAt H p W s) (hd : Does Tryz.prog G f args H (PRes H p W x)) : Does Tryz.prog G f args H fun r H' => r = .agg (exCells x.1) ∧ H' = H.set p (.cells (stCells W x.2)) := by
  refine Does.deep hd ?_
  rintro hw ha r H1 ⟨h1, h2, h3⟩
  exact ⟨_, H.set p (.cells (stCells W x.2)), h1, rfl, set_back hw h h2 h3, rfl, rfl⟩
def Reads (G : Nat → Option AV) (W : Syn.Ws) (p : Nat) (f : FuncId) (d : Int) (g : Syn.P) : Prop :=
  ∀ (H : AHeap) (s : Syn.St), PAt H p W s → s.i < W.length → Does Tryz.prog G f [.ptr p 0, .int .i64 d] H fun r H' => r = .agg (exCells (g s).1) ∧ H' = H.set p (.cells (stCells W (g s).2))
def RightC (G : Nat → Option AV) (W : Syn.Ws) (p : Nat) (nf : FuncId) (t : Bs) (d : Int) (g : Syn.P) : Prop :=
  ∀ (H : AHeap) (s : Syn.St), PAt H p W s → s.i < W.length → Does Tryz.prog G 114 [.ptr p 0, .int .i64 d, .func (.func nf) [.ptr p 0] [], .str t] H fun r H' => r = .agg (exCells (g s).1) ∧ H' = H.set p (.cells (stCells W (g s).2))
def mu (W : Syn.Ws) (s : Syn.St) : Nat := if s.err = 0 then W.length - s.i else 0
structure Keeps (W : Syn.Ws) (g : Syn.P) : Prop where
  i : ∀ s, s.i < W.length → (g s).2.i < W.length
  mu : ∀ s, s.i < W.length → mu W (g s).2 ≤ mu W s
set_option maxRecDepth 100000 in
theorem p_name {W : Syn.Ws} (hW : WsOk W) {s : Syn.St} {p : Nat} {H : AHeap} (h : PAt H p W s) (hi : s.i < W.length) : Does Tryz.prog G 55 [.ptr p 0] H fun r H' => r = .str (Syn.name W s).1 ∧ H' = H.set p (.cells (stCells W (Syn.name W s).2)) := by
  refine Does.deep (R := fun r H' => r = .str (Syn.name W s).1 ∧ H'.get p = some (.cells (stCells W (Syn.name W s).2)) ∧ ∀ j x, j ≠ p → H.get j = some x → H'.get j = some x) ?_ ?_
  · refine Does.wf Tryz.call55 fun hw _ => ?_
    have old : ∀ j x, H.get j = some x → j ≠ H.next := fun j x hj => by have := next_lt hw hj; omega
    refine does_f Tryz.call55 Tryz.func55 rfl (by simp [Tryz.f55]) ?_
    have hp1 := old _ _ h
    have hsm := hW.small
    have hw1 : IntKind.i64.wrap ((s.i : Int) + 1) = s.i + 1 := IntWalk.i64_in _ (by omega)
    simp
    refine does_use (p_word h hi) ?_
    rintro _ H1 ⟨rfl, rfl⟩
    by_cases hk : (Syn.at_ W s).2.kind = 1
    · have hk' : (((Syn.at_ W s).2.kind : Nat) : Int) = 1 := by omega
      simp [wdCells, hk']
      refine does_use (p_ok (W := W) (s := s) (by unfold PAt; simp [hp1]; exact h)) ?_
      rintro _ H2 ⟨rfl, rfl⟩
      by_cases h0 : s.err = 0
      · have h' := h
        unfold PAt stCells at h'
        simp [h0, h', hp1, Ne.symm hp1, hw1, Syn.name, Syn.kind, hk, Syn.text, stCells]
        intro j x hjp hj
        simp [hj, hjp, old j x hj]
      · simp [h0, hp1, Syn.name, Syn.kind, hk]
        refine ⟨h, fun j x hjp hj => ?_⟩
        simp [hj, hjp, old j x hj]
    · have hk' : ¬ (((Syn.at_ W s).2.kind : Nat) : Int) = 1 := by omega
      have hk2 : ((((Syn.at_ W s).2.kind : Nat) : Int) != 1) = true := by simp [hk']
      simp [wdCells, hk2]
      refine does_use (p_fail (W := W) (s := s) (by unfold PAt; simp [hp1]; exact h) hi 7) ?_
      rintro _ H2 ⟨rfl, rfl⟩
      simp
      refine does_use (p_ok (PAt.set _)) ?_
      rintro _ H3 ⟨rfl, rfl⟩
      have h0 : ¬ (Syn.fail W 7 s).err = 0 := by unfold Syn.fail; split <;> simp_all
      simp [h0, hp1, Syn.name, Syn.kind, hk]
      intro j x hjp hj
      simp [hj, hjp, old j x hj]
  · rintro hw ha r H1 ⟨rfl, h1, h2⟩
    exact ⟨_, H.set p (.cells (stCells W (Syn.name W s).2)), .old rfl, rfl, set_back hw h h1 h2, rfl, rfl⟩
set_option maxHeartbeats 2000000 in
set_option maxRecDepth 100000 in
theorem p_right {W : Syn.Ws} (hW : WsOk W) {p : Nat} {nf : FuncId} {t : Bs} {d : Int} {next below : Syn.P} (hd1 : 1 ≤ d) (hd2 : d ≤ 30) (hn : Reads G W p nf d next) (hk : Keeps W next) (hb : d ≠ 30 → RightC G W p nf t (d + 1) below) :
    RightC G W p nf t d (Syn.right W next t (decide (d = 30)) below) := by
  intro H s h hi
  refine PRes.deep h ?_
  refine Does.wf Tryz.call114 fun hw _ => ?_
  have old : ∀ j x, H.get j = some x → j ≠ H.next ∧ j ≠ H.next + 1 ∧ j ≠ H.next + 1 + 1 := fun j x hj => by have := next_lt hw hj; omega
  refine does_f Tryz.call114 Tryz.func114 rfl (by simp [Tryz.f114]) ?_
  obtain ⟨hp1, hp2, hp3⟩ := old _ _ h
  simp
  refine does_use (hn _ s (by unfold PAt; simp [hp1]; exact h) hi) ?_
  rintro _ H1 ⟨rfl, rfl⟩
  have hi1 := hk.i s hi
  rcases hx : next s with ⟨⟨op, nm, n, po, ks⟩, s1⟩
  rw [hx] at hi1
  simp only at hi1
  simp [exCells_mk, hp1, Ne.symm hp1]
  refine does_use (p_is (W := W) (s := s1) (by unfold PAt; simp [hp2]) hi1 t) ?_
  rintro _ H2 ⟨rfl, rfl⟩
  by_cases ht : Syn.is W s1 t = true
  · simp [ht]
    have hk1 := is_kind ht
    refine does_use (p_part hW (W := W) (s := s1) (by unfold PAt; simp [hp2]) hi1) ?_
    rintro _ H2 ⟨rfl, rfl⟩
    have hi2 := part_ok hW hi1 hk1.2
    simp [wdCells]
    refine does_use (p_deeper (W := W) (s := Syn.part W s1) (by unfold PAt; simp [hp3]) hi2 d) ?_
    rintro _ H3 ⟨rfl, rfl⟩
    rcases hdp : Syn.deeper W (decide (d = 30)) (Syn.part W s1) with ⟨b, s2⟩
    have hi3 : s2.i < W.length := by
      have := deeper_i W (decide (d = 30)) (Syn.part W s1)
      rw [hdp] at this
      simp only at this
      omega
    have n0 : H.next ≠ H.next + 1 + 1 := by omega
    cases b with
    | false =>
      simp [hp1, hp2, hp3, Ne.symm hp1, Ne.symm hp2, Ne.symm hp3, n0]
      refine ⟨?_, ?_, ?_⟩
      · simp [Syn.right, hx, ht, hdp]
        rw [exCells_mk]
        exact .old (by simp [AV.idLt, AV.allLt, kidsV_lt])
      · simp [Syn.right, hx, ht, hdp, hp1, hp2, hp3]
      · intro j x hjp hj
        obtain ⟨k1, k2, k3⟩ := old j x hj
        simp [hj, hjp, k1, k2, k3]
    | true =>
      have hd30 : d ≠ 30 := by
        intro e
        subst e
        simp only [decide_true, Syn.deeper, if_true, Prod.mk.injEq] at hdp
        have : ¬ (Syn.fail W 2 (Syn.part W s1)).err = 0 := by unfold Syn.fail; split <;> simp_all
        simp [this] at hdp
      have hw1 : IntKind.i64.wrap (d + 1) = d + 1 := IntWalk.i64_in _ (by omega)
      have hB := hb hd30 
      simp [hp1, hp2, hp3, Ne.symm hp1, Ne.symm hp2, Ne.symm hp3, n0]
      refine aw_drawn [(2, 0), (2, 10), (3, 0), (3, 10)] mixedOrders (by kernel_rfl) ?_
      intro es hes
      simp [hp1, hp2, hp3, Ne.symm hp1, Ne.symm hp2, Ne.symm hp3, n0, hw1]
      refine ⟨_, _, hB _ s2 (by unfold PAt; simp) hi3, by simp, ?_⟩
      rcases hy : below s2 with ⟨⟨op2, nm2, n2, po2, ks2⟩, s4⟩
      have m1 : H.next ≠ H.next + 1 + 1 + 1 := by omega
      have m2 : H.next + 1 + 1 + 1 ≠ H.next := by omega
      have m3 : H.next + 1 + 1 + 1 ≠ H.next + 1 := by omega
      have hp4 : p ≠ H.next + 1 + 1 + 1 := by have := next_lt hw h; omega
      simp [exCells_mk, hp1, hp2, hp3, hp4, Ne.symm hp1, Ne.symm hp2, Ne.symm hp3, Ne.symm hp4, n0, m1, m2, m3, rds, heapF]
      refine ⟨?_, ?_, ?_, ?_⟩
      · subst hes
        exact ⟨by kernel_rfl, by kernel_rfl⟩
      · simp [Syn.right, hx, ht, hdp, hy]
        rw [exCells_mk]
        refine .agg (.cons (.old rfl) (.cons (.old rfl) (.cons (.old rfl) (.cons (.old rfl) (.cons ?_ .nil)))))
        have hkk : kidsV [Syn.Ex.mk op nm n po ks, Syn.Ex.mk op2 nm2 n2 po2 ks2] = .vsl (exsCells [Syn.Ex.mk op nm n po ks, Syn.Ex.mk op2 nm2 n2 po2 ks2]) 2 := rfl
        rw [hkk]
        refine .sl (cs := exsCells [Syn.Ex.mk op nm n po ks, Syn.Ex.mk op2 nm2 n2 po2 ks2]) (by omega) ?_ ?_
        · simp [exsCells, exCells_mk, hp4, Ne.symm hp4, m1, m2, m3]
        · simp only [exsCells, exCells_mk]
          exact .old (by simp [AV.allLt, AV.idLt, kidsV_lt])
      · simp [Syn.right, hx, ht, hdp, hy, hp1, hp2, hp3, hp4]
      · intro j x hjp hj
        obtain ⟨k1, k2, k3⟩ := old j x hj
        have k4 : j ≠ H.next + 1 + 1 + 1 := by have := next_lt hw hj; omega
        simp [hj, hjp, k1, k2, k3, k4]
  · have ht' : Syn.is W s1 t = false := by simpa using ht
    simp [ht', hp1, hp2, Ne.symm hp1, Ne.symm hp2]
    refine ⟨?_, ?_, ?_⟩
    · simp [Syn.right, hx, ht']
      rw [exCells_mk]
      exact .old (by simp [AV.idLt, AV.allLt, kidsV_lt])
    · simp [Syn.right, hx, ht', hp1, hp2]
    · intro j x hjp hj
      obtain ⟨k1, k2, k3⟩ := old j x hj
      simp [hj, hjp, k1, k2, k3]
end Go.Proofs.YthmnpnbcdoemfaaGreatDoor

namespace Go.Proofs.YthmnpnbcdoemfaaGreatDoor
open Go Go.Abs Go.Lex
set_option linter.unusedSimpArgs false
variable {G : Nat → Option AV}
theorem fail_err (W : Syn.Ws) {e : Nat} (he : e ≠ 0) (s : Syn.St) : ¬ (Syn.fail W e s).err = 0 := by unfold Syn.fail; split <;> simp_all
theorem deeper_no {W : Syn.Ws} {d : Int} {s s2 : Syn.St} (h : Syn.deeper W (decide (d = 30)) s = (true, s2)) : d ≠ 30 ∧ s2 = s := by
  by_cases e : d = 30
  · subst e
    simp [Syn.deeper, fail_err W (e := 2) (by omega)] at h
  · simp only [Syn.deeper, e, decide_false, Bool.false_eq_true, if_false, Prod.mk.injEq] at h
    exact ⟨e, h.2.symm⟩
set_option maxHeartbeats 2000000 in
set_option maxRecDepth 100000 in
theorem p_inner {W : Syn.Ws} {p : Nat} {d : Int} {below : Syn.P} (hd1 : 1 ≤ d) (hd2 : d ≤ 30) (hb : d ≠ 30 → Reads G W p 59 (d + 1) below) :
    Reads G W p 255 d (Syn.inner W (decide (d = 30)) below) := by
  intro H s h hi
  refine PRes.deep h ?_
  refine Does.wf Tryz.call255 fun hw _ => ?_
  have old : ∀ j x, H.get j = some x → j ≠ H.next := fun j x hj => by have := next_lt hw hj; omega
  refine does_f Tryz.call255 Tryz.func255 rfl (by simp [Tryz.f255]) ?_
  have hp1 := old _ _ h
  simp
  refine does_use (p_deeper (W := W) (s := s) (by unfold PAt; simp [hp1]; exact h) hi d) ?_
  rintro _ H1 ⟨rfl, rfl⟩
  rcases hdp : Syn.deeper W (decide (d = 30)) s with ⟨b, s2⟩
  have hi3 : s2.i < W.length := by
    have := deeper_i W (decide (d = 30)) s
    rw [hdp] at this
    simp only at this
    omega
  cases b with
  | false =>
    simp [hp1, Ne.symm hp1]
    refine ⟨?_, ?_, ?_⟩
    · simp [Syn.inner, hdp]
      exact .old rfl
    · simp [Syn.inner, hdp, hp1]
    · intro j x hjp hj
      simp [hj, hjp, old j x hj]
  | true =>
    have hd30 := (deeper_no hdp).1
    have hw1 : IntKind.i64.wrap (d + 1) = d + 1 := IntWalk.i64_in _ (by omega)
    have hB := hb hd30
    simp [hp1, Ne.symm hp1, hw1]
    refine does_use (hB _ s2 (PAt.set _) hi3) ?_
    rintro _ H2 ⟨rfl, rfl⟩
    rcases hy : below s2 with ⟨⟨op, nm, n, po, ks⟩, s4⟩
    simp [exCells_mk, hp1, Ne.symm hp1]
    refine ⟨?_, ?_, ?_⟩
    · simp [Syn.inner, hdp, hy]
      rw [exCells_mk]
      exact .old (by simp [AV.idLt, AV.allLt, kidsV_lt])
    · simp [Syn.inner, hdp, hy, hp1]
    · intro j x hjp hj
      simp [hj, hjp, old j x hj]
set_option maxHeartbeats 2000000 in
set_option maxRecDepth 100000 in
theorem p_merged {W : Syn.Ws} {p : Nat} {d : Int} {below : Syn.P} (hd1 : 1 ≤ d) (hd2 : d ≤ 30) (hb : d ≠ 30 → Reads G W p 254 (d + 1) below) :
    Reads G W p 258 d (Syn.inner W (decide (d = 30)) below) := by
  intro H s h hi
  refine PRes.deep h ?_
  refine Does.wf Tryz.call258 fun hw _ => ?_
  have old : ∀ j x, H.get j = some x → j ≠ H.next := fun j x hj => by have := next_lt hw hj; omega
  refine does_f Tryz.call258 Tryz.func258 rfl (by simp [Tryz.f258]) ?_
  have hp1 := old _ _ h
  simp
  refine does_use (p_deeper (W := W) (s := s) (by unfold PAt; simp [hp1]; exact h) hi d) ?_
  rintro _ H1 ⟨rfl, rfl⟩
  rcases hdp : Syn.deeper W (decide (d = 30)) s with ⟨b, s2⟩
  have hi3 : s2.i < W.length := by
    have := deeper_i W (decide (d = 30)) s
    rw [hdp] at this
    simp only at this
    omega
  cases b with
  | false =>
    simp [hp1, Ne.symm hp1]
    refine ⟨?_, ?_, ?_⟩
    · simp [Syn.inner, hdp]
      exact .old rfl
    · simp [Syn.inner, hdp, hp1]
    · intro j x hjp hj
      simp [hj, hjp, old j x hj]
  | true =>
    have hd30 := (deeper_no hdp).1
    have hw1 : IntKind.i64.wrap (d + 1) = d + 1 := IntWalk.i64_in _ (by omega)
    have hB := hb hd30
    simp [hp1, Ne.symm hp1, hw1]
    refine does_use (hB _ s2 (PAt.set _) hi3) ?_
    rintro _ H2 ⟨rfl, rfl⟩
    rcases hy : below s2 with ⟨⟨op, nm, n, po, ks⟩, s4⟩
    simp [exCells_mk, hp1, Ne.symm hp1]
    refine ⟨?_, ?_, ?_⟩
    · simp [Syn.inner, hdp, hy]
      rw [exCells_mk]
      exact .old (by simp [AV.idLt, AV.allLt, kidsV_lt])
    · simp [Syn.inner, hdp, hy, hp1]
    · intro j x hjp hj
      simp [hj, hjp, old j x hj]
set_option maxHeartbeats 4000000 in
set_option maxRecDepth 100000 in
theorem p_un {W : Syn.Ws} (hW : WsOk W) {p : Nat} {d : Int} {prim below : Syn.P} (hd1 : 1 ≤ d) (hd2 : d ≤ 30) (hn : Reads G W p 254 d prim) (hb : d ≠ 30 → Reads G W p 253 (d + 1) below) :
    Reads G W p 253 d (Syn.un W prim (decide (d = 30)) below) := by
  intro H s h hi
  refine PRes.deep h ?_
  refine Does.wf Tryz.call253 fun hw _ => ?_
  have old : ∀ j x, H.get j = some x → j ≠ H.next ∧ j ≠ H.next + 1 ∧ j ≠ H.next + 1 + 1 ∧ j ≠ H.next + 1 + 1 + 1 := fun j x hj => by have := next_lt hw hj; omega
  refine does_f Tryz.call253 Tryz.func253 rfl (by simp [Tryz.f253]) ?_
  obtain ⟨hp1, hp2, hp3, hp4⟩ := old _ _ h
  have hq1 := Ne.symm hp1
  have hq2 := Ne.symm hp2
  have hq3 := Ne.symm hp3
  have hq4 := Ne.symm hp4
  have m1 : H.next ≠ H.next + 1 := by omega
  have m2 : H.next ≠ H.next + 1 + 1 := by omega
  have m3 : H.next ≠ H.next + 1 + 1 + 1 := by omega
  have m4 : H.next + 1 ≠ H.next + 1 + 1 + 1 := by omega
  have m5 : H.next + 1 + 1 + 1 ≠ H.next := by omega
  simp
  refine does_use (p_one (W := W) (s := s) (by unfold PAt; simp [hp1, hp2]; exact h) hi [[110, 111, 116], [45], [112, 114, 101]] (H.next + 1) 3 false (by simp) (by simp)) ?_
  rintro _ H1 ⟨rfl, rfl⟩
  by_cases ho : Syn.one W s [[110, 111, 116], [45], [112, 114, 101]] = true
  · have hk1 := one_kind ho
    simp [ho]
    refine does_use (p_part hW (W := W) (s := s) (by unfold PAt; simp [hp1, hp2]; exact h) hi) ?_
    rintro _ H2 ⟨rfl, rfl⟩
    have hi2 := part_ok hW hi hk1.2
    obtain ⟨opn, hopn⟩ : ∃ opn, opn = if (Syn.at_ W s).2.text = [45] then [110, 101, 103] else (Syn.at_ W s).2.text := ⟨_, rfl⟩
    have main : ∀ (c : Bool), c = decide ((Syn.at_ W s).2.text = [45]) → True := fun _ _ => trivial
    by_cases ht : (Syn.at_ W s).2.text = [45]
    all_goals
      simp [ht] at hopn
      subst hopn
      simp [wdCells, ht, text_beq]
      refine does_use (p_deeper (W := W) (s := Syn.part W s) (by unfold PAt; simp [hp1, hp2, hp3, hq1, hq2, hq3]) hi2 d) ?_
      rintro _ H3 ⟨rfl, rfl⟩
      rcases hdp : Syn.deeper W (decide (d = 30)) (Syn.part W s) with ⟨b, s2⟩
      have hi3 : s2.i < W.length := by
        have := deeper_i W (decide (d = 30)) (Syn.part W s)
        rw [hdp] at this
        simp only at this
        omega
      cases b with
      | false =>
        simp [hp1, hp2, hp3, hq1, hq2, hq3, m1, m2, m3, m4]
        refine ⟨?_, ?_, ?_⟩
        · simp [Syn.un, ho, hdp]
          exact .old rfl
        · simp [Syn.un, ho, hdp, hp1, hp2, hp3]
        · intro j x hjp hj
          obtain ⟨k1, k2, k3, k4⟩ := old j x hj
          simp [hj, hjp, k1, k2, k3, k4]
      | true =>
        have hd30 := (deeper_no hdp).1
        have hw1 : IntKind.i64.wrap (d + 1) = d + 1 := IntWalk.i64_in _ (by omega)
        have hB := hb hd30
        simp [hp1, hp2, hp3, hq1, hq2, hq3, m1, m2, m3, m4]
        refine aw_drawn [(2, 0), (2, 7)] mixedOrders (by kernel_rfl) ?_
        intro es hes
        simp [hp1, hp2, hp3, hq1, hq2, hq3, m1, m2, m3, m4, hw1]
        refine ⟨_, _, hB _ s2 (by unfold PAt; simp) hi3, by simp, ?_⟩
        rcases hy : below s2 with ⟨⟨op2, nm2, n2, po2, ks2⟩, s4⟩
        simp [exCells_mk, hp1, hp2, hp3, hp4, hq1, hq2, hq3, hq4, m1, m2, m3, m4, m5, rds, heapF]
        refine ⟨?_, ?_, ?_, ?_⟩
        · subst hes
          exact ⟨by kernel_rfl, by kernel_rfl⟩
        · simp [Syn.un, ho, hdp, hy, ht]
          rw [exCells_mk]
          refine .agg (.cons (.old rfl) (.cons (.old rfl) (.cons (.old rfl) (.cons (.old rfl) (.cons ?_ .nil)))))
          have hkk : kidsV [Syn.Ex.mk op2 nm2 n2 po2 ks2] = .vsl (exsCells [Syn.Ex.mk op2 nm2 n2 po2 ks2]) 1 := rfl
          rw [hkk]
          refine .sl (cs := exsCells [Syn.Ex.mk op2 nm2 n2 po2 ks2]) (by omega) ?_ ?_
          · simp [exsCells, exCells_mk, hp4, hq4, m1, m2, m3, m4, m5]
          · simp only [exsCells, exCells_mk]
            exact .old (by simp [AV.allLt, AV.idLt, kidsV_lt])
        · simp [Syn.un, ho, hdp, hy, hp1, hp2, hp3, hp4]
        · intro j x hjp hj
          obtain ⟨k1, k2, k3, k4⟩ := old j x hj
          simp [hj, hjp, k1, k2, k3, k4]
  · have ho' : Syn.one W s [[110, 111, 116], [45], [112, 114, 101]] = false := by simpa using ho
    simp [ho']
    refine does_use (hn _ s (by unfold PAt; simp [hp1, hp2]; exact h) hi) ?_
    rintro _ H2 ⟨rfl, rfl⟩
    rcases hy : prim s with ⟨⟨op, nm, n, po, ks⟩, s4⟩
    simp [exCells_mk, hp1, hp2, hq1, hq2, m1]
    refine ⟨?_, ?_, ?_⟩
    · simp [Syn.un, ho', hy]
      rw [exCells_mk]
      exact .old (by simp [AV.idLt, AV.allLt, kidsV_lt])
    · simp [Syn.un, ho', hy, hp1, hp2]
    · intro j x hjp hj
      obtain ⟨k1, k2, k3, k4⟩ := old j x hj
      simp [hj, hjp, k1, k2, k3, k4]
end Go.Proofs.YthmnpnbcdoemfaaGreatDoor

namespace Go.Proofs.YthmnpnbcdoemfaaGreatDoor
open Go Go.Abs Go.Lex
set_option linter.unusedSimpArgs false
variable {G : Nat → Option AV}
theorem part_mu {W : Syn.Ws} {s : Syn.St} (hi : s.i < W.length) (h0 : s.err = 0) : mu W (Syn.part W s) < mu W s := by
  have e1 : mu W s = W.length - s.i := by unfold mu; rw [if_pos h0]
  rw [e1]
  unfold Syn.part
  simp only
  by_cases hc : 300 < Syn.wrap (s.parts + 1)
  · simp only [hc, if_true]
    have := fail_err W (e := 2) (by omega) { s with parts := Syn.wrap (s.parts + 1) }
    rw [if_neg this]
    unfold mu
    rw [if_neg this]
    omega
  · simp only [hc, if_false, h0, if_true]
    unfold mu
    simp only [h0, if_true]
    omega
set_option maxHeartbeats 4000000 in
set_option maxRecDepth 100000 in
theorem p_cmp {W : Syn.Ws} (hW : WsOk W) {p : Nat} {d : Int} {next : Syn.P} (hn : Reads G W p 227 d next) (hk : Keeps W next) : Reads G W p 202 d (Syn.cmp W next) := by
  intro H s h hi
  refine PRes.deep h ?_
  refine Does.wf Tryz.call202 fun hw _ => ?_
  have old : ∀ j x, H.get j = some x → j ≠ H.next ∧ j ≠ H.next + 1 ∧ j ≠ H.next + 1 + 1 ∧ j ≠ H.next + 1 + 1 + 1 ∧ j ≠ H.next + 1 + 1 + 1 + 1 := fun j x hj => by have := next_lt hw hj; omega
  refine does_f Tryz.call202 Tryz.func202 rfl (by simp [Tryz.f202]) ?_
  obtain ⟨hp1, hp2, hp3, hp4, hp5⟩ := old _ _ h
  have hq1 := Ne.symm hp1
  have hq2 := Ne.symm hp2
  have hq3 := Ne.symm hp3
  have hq4 := Ne.symm hp4
  have hq5 := Ne.symm hp5
  have m1 : H.next ≠ H.next + 1 := by omega
  have m2 : H.next ≠ H.next + 1 + 1 := by omega
  have m3 : H.next ≠ H.next + 1 + 1 + 1 := by omega
  have m4 : H.next + 1 ≠ H.next + 1 + 1 + 1 := by omega
  have m5 : H.next + 1 + 1 + 1 ≠ H.next := by omega
  have m6 : H.next ≠ H.next + 1 + 1 + 1 + 1 := by omega
  have m7 : H.next + 1 ≠ H.next + 1 + 1 + 1 + 1 := by omega
  have m8 : H.next + 1 + 1 + 1 + 1 ≠ H.next := by omega
  have m9 : H.next + 1 + 1 + 1 + 1 ≠ H.next + 1 := by omega
  simp
  refine does_use (hn _ s (by unfold PAt; simp [hp1]; exact h) hi) ?_
  rintro _ H1 ⟨rfl, rfl⟩
  have hi1 := hk.i s hi
  rcases hx : next s with ⟨⟨op, nm, n, po, ks⟩, s1⟩
  rw [hx] at hi1
  simp only at hi1
  simp [exCells_mk, hp1, hq1]
  refine does_use (p_one (W := W) (s := s1) (by unfold PAt; simp [hp2, hp3]) hi1 [[61], [60, 62], [60], [60, 61], [62], [62, 61]] (H.next + 1 + 1) 6 false (by simp) (by simp)) ?_
  rintro _ H2 ⟨rfl, rfl⟩
  by_cases ho : Syn.one W s1 [[61], [60, 62], [60], [60, 61], [62], [62, 61]] = true
  · have hk1 := one_kind ho
    simp [ho]
    refine does_use (p_part hW (W := W) (s := s1) (by unfold PAt; simp [hp2, hp3]) hi1) ?_
    rintro _ H3 ⟨rfl, rfl⟩
    have hi2 := part_ok hW hi1 hk1.2
    simp [wdCells, hp1, hp2, hp3, hp4, hq1, hq2, hq3, hq4, m1, m2, m3, m4]
    refine aw_drawn [(1, 0), (1, 8), (3, 0), (3, 8), (4, 0), (4, 8)] mixedOrders (by kernel_rfl) ?_
    intro es hes
    simp [hp1, hp2, hp3, hp4, hq1, hq2, hq3, hq4, m1, m2, m3, m4]
    refine ⟨_, _, hn _ (Syn.part W s1) (by unfold PAt; simp [hp4]) hi2, by simp, ?_⟩
    rcases hy : next (Syn.part W s1) with ⟨⟨op2, nm2, n2, po2, ks2⟩, s4⟩
    simp [exCells_mk, hp1, hp2, hp3, hp4, hp5, hq1, hq2, hq3, hq4, hq5, m1, m2, m3, m4, m5, m6, m7, m8, m9, rds, heapF]
    refine ⟨?_, ?_, ?_, ?_⟩
    · subst hes
      exact ⟨by kernel_rfl, by kernel_rfl⟩
    · simp [Syn.cmp, hx, ho, hy]
      rw [exCells_mk]
      refine .agg (.cons (.old rfl) (.cons (.old rfl) (.cons (.old rfl) (.cons (.old rfl) (.cons ?_ .nil)))))
      have hkk : kidsV [Syn.Ex.mk op nm n po ks, Syn.Ex.mk op2 nm2 n2 po2 ks2] = .vsl (exsCells [Syn.Ex.mk op nm n po ks, Syn.Ex.mk op2 nm2 n2 po2 ks2]) 2 := rfl
      rw [hkk]
      refine .sl (cs := exsCells [Syn.Ex.mk op nm n po ks, Syn.Ex.mk op2 nm2 n2 po2 ks2]) (by omega) ?_ ?_
      · simp [exsCells, exCells_mk, hp5, hq5, m1, m2, m3, m4, m5, m6, m7, m8, m9]
      · simp only [exsCells, exCells_mk]
        exact .old (by simp [AV.allLt, AV.idLt, kidsV_lt])
    · simp [Syn.cmp, hx, ho, hy, hp1, hp2, hp3, hp4, hp5]
    · intro j x hjp hj
      obtain ⟨k1, k2, k3, k4, k5⟩ := old j x hj
      simp [hj, hjp, k1, k2, k3, k4, k5]
  · have ho' : Syn.one W s1 [[61], [60, 62], [60], [60, 61], [62], [62, 61]] = false := by simpa using ho
    simp [ho', hp1, hp2, hp3, hq1, hq2, hq3, m1, m2]
    refine ⟨?_, ?_, ?_⟩
    · simp [Syn.cmp, hx, ho']
      rw [exCells_mk]
      exact .old (by simp [AV.idLt, AV.allLt, kidsV_lt])
    · simp [Syn.cmp, hx, ho', hp1, hp2, hp3]
    · intro j x hjp hj
      obtain ⟨k1, k2, k3, k4, k5⟩ := old j x hj
      simp [hj, hjp, k1, k2, k3]
def ExAt (H : AHeap) (c n : Nat) (e : Syn.Ex) : Prop := ∃ (op nm : Bs) (k po : Int) (kv : AV), H.get c = some (.cells [.str op, .str nm, .int .i64 k, .int .i64 po, kv]) ∧ kv.scalar = true ∧ kv.cells = [kv] ∧ ResL H.get n [.str op, .str nm, .int .i64 k, .int .i64 po, kv] (exCells e)
set_option maxHeartbeats 4000000 in
set_option maxRecDepth 100000 in
theorem p_row {W : Syn.Ws} (hW : WsOk W) {p : Nat} {nf : FuncId} {d : Int} {next : Syn.P} (hn : Reads G W p nf d next) (hk : Keeps W next) (H : AHeap) (s : Syn.St) (h : PAt H p W s) (hi : s.i < W.length)
    (ts : List Bs) (j cap : Nat) (opn : Bool) (hj : H.get j = some (.cells (ts.map .str))) (hjp : j ≠ p) (hl : ts.length ≤ 1000) :
    Does Tryz.prog G 166 [.ptr p 0, .int .i64 d, .func (.func nf) [.ptr p 0] [], .sl j 0 1 ts.length cap opn] H fun r H' => r = .agg (exCells (Syn.row W next ts s).1) ∧ H' = H.set p (.cells (stCells W (Syn.row W next ts s).2)) := by
  refine PRes.deep h ?_
  refine Does.wf Tryz.call166 fun hw _ => ?_
  have old : ∀ j x, H.get j = some x → j < H.next := fun j x hj => next_lt hw hj
  refine does_f Tryz.call166 Tryz.func166 rfl (by simp [Tryz.f166]) ?_
  have hpl := old _ _ h
  have hjl := old _ _ hj
  have hp1 : p ≠ H.next := by omega
  have hp2 : p ≠ H.next + 1 := by omega
  have hq1 := Ne.symm hp1
  have hq2 := Ne.symm hp2
  have hj1 : j ≠ H.next := by omega
  have hj2 : j ≠ H.next + 1 := by omega
  have m1 : H.next ≠ H.next + 1 := by omega
  simp
  refine does_use (hn _ s (by unfold PAt; simp [hp1]; exact h) hi) ?_
  rintro _ H1 ⟨rfl, rfl⟩
  have hi1 := hk.i s hi
  rcases hx : next s with ⟨⟨op, nm, n, po, ks⟩, s1⟩
  rw [hx] at hi1
  simp only at hi1
  simp [exCells_mk, hp1, hq1]
  refine aws_loopw (fun m T' H' => ∃ e s', Syn.rowL W next ts m e s' = Syn.rowL W next ts (W.length + 1) (.mk op nm n po ks) s1 ∧ mu W s' < m ∧ s'.i < W.length ∧
    T' 0 = .ptr p 0 ∧ T' 1 = .int .i64 d ∧ T' 2 = .func (.func nf) [.ptr p 0] [] ∧ T' 3 = .sl j 0 1 ts.length cap opn ∧ T' 8 = .ptr H.next 0 ∧ T' 9 = .ptr (H.next + 1) 0 ∧ PAt H' p W s' ∧ ExAt H' (H.next + 1) (H.next + 2) e ∧
    H'.get H.next = some (.cells [.str [], .str [], .int .i64 0, .int .i64 0, .nilsl]) ∧ (∀ x y, x ≠ p → H.get x = some y → H'.get x = some y)) (W.length + 1) ?_ ?_
  · refine ⟨_, _, rfl, ?_, hi1, by simp, by simp, by simp, by simp, by simp, by simp, by unfold PAt; simp [hp2], ?_, by simp [hp1, hq1], fun x y hxp hxy => ?_⟩
    · unfold mu; split <;> omega
    · refine ⟨op, nm, n, po, kidsV ks, by simp, by simp, by simp, ?_⟩
      rw [exCells_mk]
      exact .old (by simp [AV.idLt, AV.allLt, kidsV_lt])
    · have := old x y hxy
      have k1 : x ≠ H.next := by omega
      have k2 : x ≠ H.next + 1 := by omega
      simp [hxy, hxp, k1, k2]
  rintro m T H1 ⟨e, s', hrow, hmu, hi', t0, t1, t2, t3, t8, t9, hP, ⟨eo, en, ek, ep, kv, hE, hkv1, hkv2, hres⟩, hZ, hkeep⟩ hw1 _
  have hjj := hkeep _ _ hjp hj
  have hN := next_lt hw1 hE
  have hp3 : p ≠ H1.next := by omega
  have hp4 : p ≠ H1.next + 1 := by omega
  have hq3 := Ne.symm hp3
  have hq4 := Ne.symm hp4
  have n1 : H.next ≠ H1.next := by omega
  have n2 : H.next + 1 ≠ H1.next := by omega
  have n3 : H.next ≠ H1.next + 1 := by omega
  have n4 : H.next + 1 ≠ H1.next + 1 := by omega
  have n5 := Ne.symm n1
  have n6 := Ne.symm n2
  have n7 := Ne.symm n3
  have n8 := Ne.symm n4
  obtain ⟨k, rfl⟩ : ∃ k, m = k + 1 := ⟨m - 1, by omega⟩
  simp [t0, t1, t2, t3, t8, t9]
  refine does_use (p_one hP hi' ts j cap opn hjj hl) ?_
  rintro _ H2 ⟨rfl, rfl⟩
  by_cases ho : Syn.one W s' ts = true
  · have hk1 := one_kind ho
    simp [ho, t0, t1, t2, t3, t8, t9]
    refine does_use (p_part hW hP hi') ?_
    rintro _ H3 ⟨rfl, rfl⟩
    have hi2 := part_ok hW hi' hk1.2
    simp [wdCells, t0, t1, t2, t3, t8, t9, hp3, hq3]
    refine aw_drawn [(1, 0), (1, 8), (3, 0), (3, 8), (4, 0), (4, 8)] mixedOrders (by kernel_rfl) ?_
    intro es hes
    simp [t0, t1, t2, t3, t8, t9, hp1, hp2, hp3, hq1, hq2, hq3, n1, n2, n5, n6, hE]
    refine ⟨_, _, hn _ (Syn.part W s') (by unfold PAt; simp [hp3]) hi2, by simp, ?_⟩
    have hi4 := hk.i (Syn.part W s') hi2
    have hm4 := hk.mu (Syn.part W s') hi2
    rcases hy : next (Syn.part W s') with ⟨⟨op2, nm2, n2', po2, ks2⟩, s4⟩
    rw [hy] at hi4 hm4
    simp only at hi4 hm4
    simp [exCells_mk, t0, t1, t2, t3, t8, t9, hp1, hp2, hp3, hp4, hq1, hq2, hq3, hq4, n1, n2, n3, n4, n5, n6, n7, n8, hE, hkv1, hkv2, hZ, rds, heapF]
    refine ⟨?_, ?_⟩
    · subst hes
      exact ⟨by kernel_rfl, by kernel_rfl⟩
    have hm5 := part_mu hi' hk1.1
    have hlt1 := old _ _ h
    refine ⟨k, by omega, .mk (Syn.at_ W s').2.text [] 0 (Syn.at_ W s').1 [e, .mk op2 nm2 n2' po2 ks2], s4, by rw [← hrow]; simp [Syn.rowL, ho, hy], by omega, hi4, ?_, ?_, ?_⟩
    · unfold PAt
      simp [hp2, hp3, hp4]
    · refine ⟨_, _, _, _, _, by simp; exact ⟨rfl, rfl, rfl, rfl, rfl⟩, rfl, rfl, ?_⟩
      rw [exCells_mk]
      refine .cons (.old rfl) (.cons (.old rfl) (.cons (.old rfl) (.cons (.old rfl) (.cons ?_ .nil))))
      have hkk : kidsV [e, Syn.Ex.mk op2 nm2 n2' po2 ks2] = .vsl (exsCells [e, Syn.Ex.mk op2 nm2 n2' po2 ks2]) 2 := rfl
      rw [hkk]
      refine .sl (cs := [AV.str eo, AV.str en, AV.int IntKind.i64 ek, AV.int IntKind.i64 ep, kv, AV.str op2, AV.str nm2, AV.int IntKind.i64 ↑n2', AV.int IntKind.i64 ↑po2, kidsV ks2]) (by omega) (by simp [n1, n2, n3, n4, n5, n6, n7, n8, hp4, hq4]) ?_
      simp only [exsCells, List.append_nil]
      have hr2 := ResL.mono (g' := ((((((H2.set p (AObj.cells (stCells W (Syn.part W s')))).push (AObj.cells [AV.int IntKind.i64 0, AV.str [], AV.int IntKind.i64 0, AV.int IntKind.i64 0])).set H2.next (AObj.cells [AV.int IntKind.i64 ↑(Syn.at_ W s').snd.kind, AV.str (Syn.at_ W s').snd.text, AV.int IntKind.i64 ↑(Syn.at_ W s').snd.n, AV.int IntKind.i64 ↑(Syn.at_ W s').fst])).set p (AObj.cells (stCells W s4))).push (AObj.cells [AV.str eo, AV.str en, AV.int IntKind.i64 ek, AV.int IntKind.i64 ep, kv, AV.str op2, AV.str nm2, AV.int IntKind.i64 ↑n2', AV.int IntKind.i64 ↑po2, kidsV ks2])).set (H.next + 1) (AObj.cells [AV.str (Syn.at_ W s').snd.text, AV.str [], AV.int IntKind.i64 0, AV.int IntKind.i64 ↑(Syn.at_ W s').fst, AV.sl (H2.next + 1) 0 5 2 2 false])).get) (fun i cs hi hc => by
        have := next_lt hw1 hc
        have k1 : i ≠ H.next + 1 := by omega
        have k2 : i ≠ H2.next := by omega
        have k3 : i ≠ H2.next + 1 := by omega
        have k4 : i ≠ p := by omega
        simp [k1, k2, k3, k4, hc]) hres
      have hr3 : ResL ((((((H2.set p (AObj.cells (stCells W (Syn.part W s')))).push (AObj.cells [AV.int IntKind.i64 0, AV.str [], AV.int IntKind.i64 0, AV.int IntKind.i64 0])).set H2.next (AObj.cells [AV.int IntKind.i64 ↑(Syn.at_ W s').snd.kind, AV.str (Syn.at_ W s').snd.text, AV.int IntKind.i64 ↑(Syn.at_ W s').snd.n, AV.int IntKind.i64 ↑(Syn.at_ W s').fst])).set p (AObj.cells (stCells W s4))).push (AObj.cells [AV.str eo, AV.str en, AV.int IntKind.i64 ek, AV.int IntKind.i64 ep, kv, AV.str op2, AV.str nm2, AV.int IntKind.i64 ↑n2', AV.int IntKind.i64 ↑po2, kidsV ks2])).set (H.next + 1) (AObj.cells [AV.str (Syn.at_ W s').snd.text, AV.str [], AV.int IntKind.i64 0, AV.int IntKind.i64 ↑(Syn.at_ W s').fst, AV.sl (H2.next + 1) 0 5 2 2 false])).get (H.next + 2) [.str op2, .str nm2, .int .i64 n2', .int .i64 po2, kidsV ks2] (exCells (.mk op2 nm2 n2' po2 ks2)) := by
        rw [exCells_mk]
        exact .old (by simp [AV.allLt, AV.idLt, kidsV_lt])
      exact hr2.append hr3
    · intro x y hxp hxy
      have := old x y hxy
      have k1 : x ≠ H.next + 1 := by omega
      have k2 : x ≠ H2.next := by omega
      have k3 : x ≠ H2.next + 1 := by omega
      simp [hxp, k1, k2, k3, hkeep x y hxp hxy]
  · have ho' : Syn.one W s' ts = false := by simpa using ho
    have hfin : Syn.row W next ts s = (e, s') := by
      simp only [Syn.row, hx]
      rw [← hrow]
      simp [Syn.rowL, ho']
    simp [ho', t0, t1, t2, t3, t8, t9, hE, hZ, hkv1, hkv2, m1]
    refine ⟨?_, ?_, ?_⟩
    · rw [hfin]
      refine .agg (ResL.down (n := H.next + 2) (by omega) (ResL.mono (fun i cs hi hc => ?_) hres) (exCells_lt _ _))
      have : i ≠ H.next := by omega
      simp [this, hc]
    · rw [hfin]
      simp [hp1]
      exact hP
    · intro x y hxp hxy
      have := old x y hxy
      have k1 : x ≠ H.next := by omega
      simp [k1, hkeep x y hxp hxy]
end Go.Proofs.YthmnpnbcdoemfaaGreatDoor

namespace Go.Proofs.YthmnpnbcdoemfaaGreatDoor
open Go Go.Abs Go.Lex
set_option linter.unusedSimpArgs false
variable {G : Nat → Option AV}
theorem mu_fail (W : Syn.Ws) {e : Nat} (he : e ≠ 0) (s : Syn.St) : mu W (Syn.fail W e s) ≤ mu W s := by
  have := fail_err W he s
  unfold mu
  rw [if_neg this]
  omega
theorem mu_succ (W : Syn.Ws) (s : Syn.St) : mu W { s with i := s.i + 1 } ≤ mu W s := by
  unfold mu
  simp only
  split <;> omega
theorem take_mu (W : Syn.Ws) (s : Syn.St) (t : Bs) : mu W (Syn.take W s t).2 ≤ mu W s := by
  unfold Syn.take
  split
  · exact mu_succ W s
  · exact Nat.le_refl _
theorem want1_mu (W : Syn.Ws) (s : Syn.St) (t : Bs) : mu W (Syn.want1 W s t) ≤ mu W s := by
  unfold Syn.want1
  split
  · exact mu_succ W s
  · exact mu_fail W (by omega) s
theorem name_mu (W : Syn.Ws) (s : Syn.St) : mu W (Syn.name W s).2 ≤ mu W s := by
  unfold Syn.name
  by_cases hk : Syn.kind W s = 1
  · simp only [hk, if_true]
    split
    · exact mu_succ W s
    · exact Nat.le_refl _
  · simp only [hk, if_false]
    rw [if_neg (fail_err W (by omega) s)]
    exact mu_fail W (by omega) s
theorem deeper_mu (W : Syn.Ws) (b : Bool) (s : Syn.St) : mu W (Syn.deeper W b s).2 ≤ mu W s := by
  unfold Syn.deeper
  simp only
  split
  · exact mu_fail W (by omega) s
  · exact Nat.le_refl _
theorem part_mu' {W : Syn.Ws} (s : Syn.St) : mu W (Syn.part W s) ≤ mu W s := by
  by_cases h0 : s.err = 0
  · by_cases hi : s.i < W.length
    · exact Nat.le_of_lt (part_mu hi h0)
    · unfold Syn.part
      simp only
      by_cases hc : 300 < Syn.wrap (s.parts + 1)
      · simp only [hc, if_true]
        have := fail_err W (e := 2) (by omega) { s with parts := Syn.wrap (s.parts + 1) }
        rw [if_neg this]
        unfold mu
        rw [if_neg this]
        omega
      · simp only [hc, if_false, h0, if_true]
        unfold mu
        simp only [h0, if_true]
        omega
  · unfold Syn.part
    simp only
    by_cases hc : 300 < Syn.wrap (s.parts + 1)
    · simp only [hc, if_true]
      have := fail_err W (e := 2) (by omega) { s with parts := Syn.wrap (s.parts + 1) }
      rw [if_neg this]
      unfold mu
      rw [if_neg this]
      omega
    · simp only [hc, if_false, h0]
      unfold mu
      simp only [h0, if_false]
      omega
set_option maxHeartbeats 4000000 in
set_option maxRecDepth 100000 in
theorem p_when {W : Syn.Ws} (hW : WsOk W) {p : Nat} {d : Int} {next : Syn.P} (hn : Reads G W p 253 d next) (hk : Keeps W next) : Reads G W p 250 d (Syn.when_ W next) := by
  intro H s h hi
  refine PRes.deep h ?_
  refine Does.wf Tryz.call250 fun hw _ => ?_
  have old : ∀ j x, H.get j = some x → j < H.next := fun j x hj => next_lt hw hj
  refine does_f Tryz.call250 Tryz.func250 rfl (by simp [Tryz.f250]) ?_
  have hpl := old _ _ h
  have hp1 : p ≠ H.next := by omega
  have hp2 : p ≠ H.next + 1 := by omega
  have hq1 := Ne.symm hp1
  have hq2 := Ne.symm hp2
  have m1 : H.next ≠ H.next + 1 := by omega
  simp
  refine does_use (hn _ s (by unfold PAt; simp [hp1]; exact h) hi) ?_
  rintro _ H1 ⟨rfl, rfl⟩
  have hi1 := hk.i s hi
  rcases hx : next s with ⟨⟨op, nm, n, po, ks⟩, s1⟩
  rw [hx] at hi1
  simp only at hi1
  simp [exCells_mk, hp1, hq1]
  refine aws_loopw (fun m T' H' => ∃ e s', Syn.whenL W m e s' = Syn.whenL W (W.length + 1) (.mk op nm n po ks) s1 ∧ mu W s' < m ∧ s'.i < W.length ∧
    T' 0 = .ptr p 0 ∧ T' 1 = .int .i64 d ∧ T' 4 = .ptr H.next 0 ∧ T' 5 = .ptr (H.next + 1) 0 ∧ PAt H' p W s' ∧ ExAt H' (H.next + 1) (H.next + 2) e ∧
    H'.get H.next = some (.cells [.str [], .str [], .int .i64 0, .int .i64 0, .nilsl]) ∧ (∀ x y, x ≠ p → H.get x = some y → H'.get x = some y)) (W.length + 1) ?_ ?_
  · refine ⟨_, _, rfl, ?_, hi1, by simp, by simp, by simp, by simp, by unfold PAt; simp [hp2], ?_, by simp [hp1, hq1], fun x y hxp hxy => ?_⟩
    · unfold mu; split <;> omega
    · refine ⟨op, nm, n, po, kidsV ks, by simp, by simp, by simp, ?_⟩
      rw [exCells_mk]
      exact .old (by simp [AV.idLt, AV.allLt, kidsV_lt])
    · have := old x y hxy
      have k1 : x ≠ H.next := by omega
      have k2 : x ≠ H.next + 1 := by omega
      simp [hxy, hxp, k1, k2]
  rintro m T H1 ⟨e, s', hrow, hmu, hi', t0, t1, t4, t5, hP, ⟨eo, en, ek, ep, kv, hE, hkv1, hkv2, hres⟩, hZ, hkeep⟩ hw1 _
  have hN := next_lt hw1 hE
  have hp3 : p ≠ H1.next := by omega
  have hp4 : p ≠ H1.next + 1 := by omega
  have hq3 := Ne.symm hp3
  have hq4 := Ne.symm hp4
  have n1 : H.next ≠ H1.next := by omega
  have n2 : H.next + 1 ≠ H1.next := by omega
  have n3 : H.next ≠ H1.next + 1 := by omega
  have n4 : H.next + 1 ≠ H1.next + 1 := by omega
  have n5 := Ne.symm n1
  have n6 := Ne.symm n2
  have n7 := Ne.symm n3
  have n8 := Ne.symm n4
  obtain ⟨k, rfl⟩ : ∃ k, m = k + 1 := ⟨m - 1, by omega⟩
  simp [t0, t1, t4, t5]
  refine does_use (p_is hP hi' [119, 104, 101, 110]) ?_
  rintro _ H2 ⟨rfl, rfl⟩
  by_cases ho : Syn.is W s' [119, 104, 101, 110] = true
  · have hk1 := is_kind ho
    simp [ho, t0, t1, t4, t5]
    refine does_use (p_part hW hP hi') ?_
    rintro _ H3 ⟨rfl, rfl⟩
    have hi2 := part_ok hW hi' hk1.2
    have hm5 := part_mu hi' hk1.1
    simp [wdCells, t0, t1, t4, t5, hp3, hq3]
    refine does_use (p_take hW (W := W) (s := Syn.part W s') (by unfold PAt; simp [hp3]) hi2 [110, 111, 116]) ?_
    rintro _ H3 ⟨rfl, rfl⟩
    have hi3 := take_ok hW hi2 [110, 111, 116]
    have hm6 := take_mu W (Syn.part W s') [110, 111, 116]
    rcases htk : Syn.take W (Syn.part W s') [110, 111, 116] with ⟨b, s2⟩
    rw [htk] at hi3 hm6
    simp only at hi3 hm6
    have hi4 := name_ok hW hi3
    have hm7 := name_mu W s2
    rcases hnm : Syn.name W s2 with ⟨nm2, s4⟩
    rw [hnm] at hi4 hm7
    simp only at hi4 hm7
    obtain ⟨nn, hnn⟩ : ∃ nn : Nat, nn = if b then 0 else 1 := ⟨_, rfl⟩
    cases b
    all_goals
      simp at hnn
      simp [t0, t1, t4, t5, hp3, hq3]
      refine aw_drawn [(4, 0), (4, 2), (5, 0), (5, 2)] mixedOrders (by kernel_rfl) ?_
      intro es hes
      simp [t0, t1, t4, t5, hp1, hp2, hp3, hq1, hq2, hq3, n1, n2, n5, n6, hE]
      refine ⟨_, _, p_name hW (W := W) (s := s2) (by unfold PAt; simp) hi3, by simp, ?_⟩
      simp [hnm, exCells_mk, t0, t1, t4, t5, hp1, hp2, hp3, hp4, hq1, hq2, hq3, hq4, n1, n2, n3, n4, n5, n6, n7, n8, hE, hkv1, hkv2, hZ, rds, heapF]
      refine ⟨?_, ?_⟩
      · subst hes
        exact ⟨by kernel_rfl, by kernel_rfl⟩
      refine ⟨k, by omega, .mk [119, 104, 101, 110] nm2 nn (Syn.at_ W s').1 [e], s4, by rw [← hrow]; simp [Syn.whenL, ho, htk, hnm, hnn], by omega, hi4, ?_, ?_, ?_⟩
      · unfold PAt
        simp [hp2, hp3, hp4]
      · refine ⟨_, _, _, _, _, by simp; exact ⟨rfl, rfl, rfl, rfl, rfl⟩, rfl, rfl, ?_⟩
        rw [exCells_mk, hnn]
        refine .cons (.old rfl) (.cons (.old rfl) (.cons (.old rfl) (.cons (.old rfl) (.cons ?_ .nil))))
        have hkk : kidsV [e] = .vsl (exsCells [e]) 1 := rfl
        rw [hkk]
        refine .sl (cs := [AV.str eo, AV.str en, AV.int IntKind.i64 ek, AV.int IntKind.i64 ep, kv]) (by omega) (by simp [n1, n2, n3, n4, n5, n6, n7, n8, hp4, hq4]) ?_
        simp only [exsCells, List.append_nil]
        refine ResL.mono (fun i cs hi hc => ?_) hres
        have := next_lt hw1 hc
        have k1 : i ≠ H.next + 1 := by omega
        have k2 : i ≠ H2.next := by omega
        have k3 : i ≠ H2.next + 1 := by omega
        have k4 : i ≠ p := by omega
        simp [k1, k2, k3, k4, hc]
      · intro x y hxp hxy
        have := old x y hxy
        have k1 : x ≠ H.next + 1 := by omega
        have k2 : x ≠ H2.next := by omega
        have k3 : x ≠ H2.next + 1 := by omega
        simp [hxp, k1, k2, k3, hkeep x y hxp hxy]
  · have ho' : Syn.is W s' [119, 104, 101, 110] = false := by simpa using ho
    have hfin : Syn.when_ W next s = (e, s') := by
      simp only [Syn.when_, hx]
      rw [← hrow]
      simp [Syn.whenL, ho']
    simp [ho', t0, t1, t4, t5, hE, hZ, hkv1, hkv2, m1]
    refine ⟨?_, ?_, ?_⟩
    · rw [hfin]
      refine .agg (ResL.down (n := H.next + 2) (by omega) (ResL.mono (fun i cs hi hc => ?_) hres) (exCells_lt _ _))
      have : i ≠ H.next := by omega
      simp [this, hc]
    · rw [hfin]
      simp [hp1]
      exact hP
    · intro x y hxp hxy
      have := old x y hxy
      have k1 : x ≠ H.next := by omega
      simp [k1, hkeep x y hxp hxy]
end Go.Proofs.YthmnpnbcdoemfaaGreatDoor

namespace Go.Proofs.YthmnpnbcdoemfaaGreatDoor
open Go Go.Abs Go.Lex
set_option linter.unusedSimpArgs false
variable {G : Nat → Option AV}
theorem exCells_len (e : Syn.Ex) : (exCells e).length = 5 := by cases e; rw [exCells_mk]; rfl
theorem exsCells_len : ∀ l : List Syn.Ex, (exsCells l).length = l.length * 5
  | [] => rfl
  | e :: l => by rw [exsCells, List.length_append, exCells_len, exsCells_len l]; simp; omega
theorem exsCells_append : ∀ a b : List Syn.Ex, exsCells (a ++ b) = exsCells a ++ exsCells b
  | [], b => rfl
  | e :: a, b => by rw [List.cons_append, exsCells, exsCells, exsCells_append a b, List.append_assoc]
theorem inner_keeps {W : Syn.Ws} {b : Bool} {below : Syn.P} (hk : Keeps W below) : Keeps W (Syn.inner W b below) := by
  refine ⟨fun s hi => ?_, fun s hi => ?_⟩
  · unfold Syn.inner
    have h1 := deeper_i W b s
    rcases hd : Syn.deeper W b s with ⟨c, s1⟩
    rw [hd] at h1
    simp only at h1 ⊢
    cases c
    · simpa [h1] using hi
    · exact hk.i s1 (by omega)
  · unfold Syn.inner
    have h1 := deeper_i W b s
    have h2 := deeper_mu W b s
    rcases hd : Syn.deeper W b s with ⟨c, s1⟩
    rw [hd] at h1 h2
    simp only at h1 h2 ⊢
    cases c
    · simpa using h2
    · exact Nat.le_trans (hk.mu s1 (by omega)) h2
set_option maxHeartbeats 4000000 in
set_option maxRecDepth 100000 in
theorem p_arguments {W : Syn.Ws} (hW : WsOk W) {p : Nat} {d : Int} {inn : Syn.P} (hn : Reads G W p 255 d inn) (hk : Keeps W inn) (H : AHeap) (s : Syn.St) (h : PAt H p W s) (hi : s.i < W.length) :
    Does Tryz.prog G 257 [.ptr p 0, .int .i64 d] H fun r H' => r = kidsV (Syn.arguments W inn s).1 ∧ H' = H.set p (.cells (stCells W (Syn.arguments W inn s).2)) := by
  refine Does.deep (R := fun r H' => ResV H'.get H.next r (kidsV (Syn.arguments W inn s).1) ∧ H'.get p = some (.cells (stCells W (Syn.arguments W inn s).2)) ∧ ∀ j y, j ≠ p → H.get j = some y → H'.get j = some y) ?_ ?_
  rotate_left
  · rintro hw ha r H1 ⟨h1, h2, h3⟩
    exact ⟨_, H.set p (.cells (stCells W (Syn.arguments W inn s).2)), h1, rfl, set_back hw h h2 h3, rfl, rfl⟩
  refine Does.wf Tryz.call257 fun hw _ => ?_
  have old : ∀ j x, H.get j = some x → j < H.next := fun j x hj => next_lt hw hj
  refine does_f Tryz.call257 Tryz.func257 rfl (by simp [Tryz.f257]) ?_
  have hpl := old _ _ h
  have hp1 : p ≠ H.next := by omega
  have hq1 := Ne.symm hp1
  simp
  refine does_use (p_take hW h hi [41]) ?_
  rintro _ H1 ⟨rfl, rfl⟩
  by_cases ht : Syn.is W s [41] = true
  · simp [Syn.take, ht]
    refine ⟨?_, ?_, ?_⟩
    · simp [Syn.arguments, ht]
      exact .old rfl
    · simp [Syn.arguments, ht]
    · intro j x hjp hj
      simp [hj, hjp]
  · have ht' : Syn.is W s [41] = false := by simpa using ht
    simp [Syn.take, ht']
    refine does_use (hn _ s (PAt.set _) hi) ?_
    rintro _ H1 ⟨rfl, rfl⟩
    have hi1 := hk.i s hi
    have hm1 := hk.mu s hi
    rcases hx : inn s with ⟨⟨op, nm, n, po, ks⟩, s1⟩
    rw [hx] at hi1 hm1
    simp only at hi1 hm1
    simp [exCells_mk, hp1, hq1]
    have hsm := hW.small
    refine aws_loopw (fun m T' H' => ∃ l s' b opn, Syn.argsL W inn m l s' = Syn.argsL W inn (W.length + 1) [.mk op nm n po ks] s1 ∧ mu W s' < m ∧ s'.i < W.length ∧ l.length + m ≤ W.length + 2 ∧ l ≠ [] ∧
      T' 0 = .ptr p 0 ∧ T' 1 = .int .i64 d ∧ T' 5 = .sl b 0 5 l.length l.length opn ∧ H'.get b = some (.cells (exsCells l)) ∧ H.next ≤ b ∧ PAt H' p W s' ∧ (∀ x y, x ≠ p → H.get x = some y → H'.get x = some y)) (W.length + 1) ?_ ?_
    · refine ⟨_, _, H.next, false, rfl, ?_, hi1, by simp; omega, by simp, by simp, by simp, by simp, by simp [exsCells, exCells_mk], by omega, by unfold PAt; simp [hp1], fun x y hxp hxy => ?_⟩
      · unfold mu; split <;> omega
      · have := old x y hxy
        have k1 : x ≠ H.next := by omega
        simp [hxy, hxp, k1]
    rintro m T H1 ⟨l, s', b, opn, hargs, hmu, hi', hlm, hl0, t0, t1, t5, hb, hbn, hP, hkeep⟩ hw1 _
    have hN := next_lt hw1 hb
    have hp2 : p ≠ H1.next := by omega
    have hp3 : p ≠ H1.next + 1 := by omega
    have hq2 := Ne.symm hp2
    have hq3 := Ne.symm hp3
    have hpb : p ≠ b := by omega
    have hqb := Ne.symm hpb
    have n1 : b ≠ H1.next := by omega
    have n2 : b ≠ H1.next + 1 := by omega
    have n3 := Ne.symm n1
    have n4 := Ne.symm n2
    obtain ⟨k, rfl⟩ : ∃ k, m = k + 1 := ⟨m - 1, by omega⟩
    simp [t0, t1, t5]
    refine does_use (p_take hW hP hi' [44]) ?_
    rintro _ H2 ⟨rfl, rfl⟩
    by_cases ho : Syn.is W s' [44] = true
    · have hi2 := ok_succ hW hi' (is_kind ho).2
      have hm2 : mu W { s' with i := s'.i + 1 } < mu W s' := by
        have h0 := (is_kind ho).1
        unfold mu
        simp only [h0, if_true]
        omega
      simp [Syn.take, ho, t0, t1, t5]
      refine does_use (hn _ { s' with i := s'.i + 1 } (PAt.set _) hi2) ?_
      rintro _ H3 ⟨rfl, rfl⟩
      have hi4 := hk.i { s' with i := s'.i + 1 } hi2
      have hm4 := hk.mu { s' with i := s'.i + 1 } hi2
      rcases hy : inn { s' with i := s'.i + 1 } with ⟨⟨op2, nm2, n2', po2, ks2⟩, s4⟩
      rw [hy] at hi4 hm4
      simp only at hi4 hm4
      have hgrow : ¬ (l.length + 1 ≤ l.length) := by omega
      have g1 : (l.length + 1) * 72 ≤ 140737488355328 := by omega
      have g2 : l.length ≤ 4611686018427387903 := by omega
      have g3 : List.take (l.length * 5) (exsCells l) = exsCells l := by rw [List.take_of_length_le]; rw [exsCells_len]; omega
      have g4 : l.length * 5 ≤ (exsCells l).length := by rw [exsCells_len]; omega
      cases opn <;> simp [exCells_mk, t0, t1, t5, hb, hpb, hqb, hp2, hp3, hq2, hq3, n1, n2, n3, n4, hgrow, g1, g2, g3, g4]
      all_goals
        refine ⟨k, by omega, l ++ [.mk op2 nm2 n2' po2 ks2], s4, by rw [← hargs]; simp [Syn.argsL, ho, hy], by omega, hi4, by simp; omega, by simp, H1.next + 1, ⟨rfl, by simp⟩, by simp [exsCells_append, exsCells, exCells_mk], by omega, ?_, ?_⟩
        · unfold PAt
          simp [hp2, hp3, hpb]
        · intro x y hxp hxy
          have := old x y hxy
          have k1 : x ≠ H1.next := by omega
          have k2 : x ≠ H1.next + 1 := by omega
          have k3 : x ≠ b := by omega
          simp [hxp, k1, k2, k3, hkeep x y hxp hxy]
    · have ho' : Syn.is W s' [44] = false := by simpa using ho
      simp [Syn.take, ho', t0, t1, t5]
      refine does_use (p_want hW (W := W) (s := s') (by unfold PAt; simp [hp2]) hi' [[41]] H1.next 1 false (by simp) hq2 (by simp)) ?_
      rintro _ H2 ⟨rfl, rfl⟩
      have hfin : Syn.arguments W inn s = (l, Syn.want1 W s' [41]) := by
        simp only [Syn.arguments, ht', Bool.false_eq_true, if_false, hx]
        rw [← hargs]
        simp [Syn.argsL, ho']
      have hw1' : Syn.want W s' [[41]] = Syn.want1 W s' [41] := rfl
      have g3 : List.take (l.length * 5) (exsCells l) = exsCells l := by rw [List.take_of_length_le]; rw [exsCells_len]; omega
      have hkl : kidsV l = .vsl (exsCells l) l.length := by
        unfold kidsV
        cases l with
        | nil => exact absurd rfl hl0
        | cons a l => rfl
      simp [t0, t1, t5, hw1']
      refine ⟨?_, ?_, ?_⟩
      · rw [hfin, hkl]
        refine .sl (cs := exsCells l) (by omega) (by simp [hpb, hqb, n1, n3, hb]) ?_
        rw [List.drop_zero, g3]
        exact .old (exsCells_lt _ _)
      · rw [hfin]
      · intro x y hxp hxy
        have := old x y hxy
        have k1 : x ≠ H1.next := by omega
        simp [hxp, k1, hkeep x y hxp hxy]
end Go.Proofs.YthmnpnbcdoemfaaGreatDoor

namespace Go.Proofs.YthmnpnbcdoemfaaGreatDoor
open Go Go.Abs Go.Lex
set_option linter.unusedSimpArgs false
variable {G : Nat → Option AV}
theorem arguments_keeps {W : Syn.Ws} (hW : WsOk W) {inn : Syn.P} (hk : Keeps W inn) : (∀ s, s.i < W.length → (Syn.arguments W inn s).2.i < W.length) ∧ ∀ s, s.i < W.length → mu W (Syn.arguments W inn s).2 ≤ mu W s := by
  have hL : ∀ (m : Nat) (l : List Syn.Ex) (s : Syn.St), s.i < W.length → (Syn.argsL W inn m l s).2.i < W.length ∧ mu W (Syn.argsL W inn m l s).2 ≤ mu W s := by
    intro m
    induction m with
    | zero => intro l s hi; exact ⟨hi, Nat.le_refl _⟩
    | succ m ih =>
      intro l s hi
      unfold Syn.argsL
      split
      · rename_i ho
        have hi2 := ok_succ hW hi (is_kind ho).2
        have h1 := hk.i { s with i := s.i + 1 } hi2
        have h2 := hk.mu { s with i := s.i + 1 } hi2
        have h3 := mu_succ W s
        rcases hx : inn { s with i := s.i + 1 } with ⟨e, s2⟩
        rw [hx] at h1 h2
        simp only at h1 h2 ⊢
        obtain ⟨g1, g2⟩ := ih (l ++ [e]) s2 h1
        exact ⟨g1, Nat.le_trans g2 (Nat.le_trans h2 h3)⟩
      · exact ⟨hi, Nat.le_refl _⟩
  have key : ∀ s, s.i < W.length → (Syn.arguments W inn s).2.i < W.length ∧ mu W (Syn.arguments W inn s).2 ≤ mu W s := by
    intro s hi
    unfold Syn.arguments
    split
    · rename_i ho
      exact ⟨ok_succ hW hi (is_kind ho).2, mu_succ W s⟩
    · have h1 := hk.i s hi
      have h2 := hk.mu s hi
      rcases hx : inn s with ⟨e, s1⟩
      rw [hx] at h1 h2
      simp only at h1 h2 ⊢
      obtain ⟨g1, g2⟩ := hL (W.length + 1) [e] s1 h1
      rcases hy : Syn.argsL W inn (W.length + 1) [e] s1 with ⟨l, s2⟩
      rw [hy] at g1 g2
      simp only at g1 g2 ⊢
      exact ⟨want1_ok hW g1 _, Nat.le_trans (want1_mu W s2 _) (Nat.le_trans g2 h2)⟩
  exact ⟨fun s hi => (key s hi).1, fun s hi => (key s hi).2⟩
set_option maxHeartbeats 8000000 in
set_option maxRecDepth 100000 in
theorem p_rest {W : Syn.Ws} (hW : WsOk W) {p : Nat} {d : Int} {inn mer : Syn.P} (hn : Reads G W p 255 d inn) (hk : Keeps W inn) (hm : Reads G W p 258 d mer) (hkm : Keeps W mer)
    (H : AHeap) (s : Syn.St) (h : PAt H p W s) (hi : s.i < W.length) (w : Nat × Wd) :
    Does Tryz.prog G 256 [.ptr p 0, .agg (wdCells w.2 w.1), .int .i64 d] H fun r H' => r = .agg (exCells (Syn.rest W inn mer w s).1) ∧ H' = H.set p (.cells (stCells W (Syn.rest W inn mer w s).2)) := by
  refine PRes.deep h ?_
  refine Does.wf Tryz.call256 fun hw _ => ?_
  have old : ∀ j x, H.get j = some x → j < H.next := fun j x hj => next_lt hw hj
  refine does_f Tryz.call256 Tryz.func256 rfl (by simp [Tryz.f256]) ?_
  have hpl := old _ _ h
  have hp1 : p ≠ H.next := by omega
  have hp2 : p ≠ H.next + 1 := by omega
  have hp3 : p ≠ H.next + 1 + 1 := by omega
  have hp4 : p ≠ H.next + 1 + 1 + 1 := by omega
  have hq1 := Ne.symm hp1
  have hq2 := Ne.symm hp2
  have hq3 := Ne.symm hp3
  have hq4 := Ne.symm hp4
  have m1 : H.next ≠ H.next + 1 + 1 := by omega
  have m2 : H.next + 1 + 1 ≠ H.next := by omega
  have m3 : H.next ≠ H.next + 1 + 1 + 1 := by omega
  have m4 : H.next + 1 + 1 + 1 ≠ H.next := by omega
  have m5 : H.next + 1 ≠ H.next + 1 + 1 + 1 := by omega
  have m6 : H.next + 1 + 1 + 1 ≠ H.next + 1 := by omega
  have hP0 : ∀ H' : AHeap, H'.get p = H.get p → PAt H' p W s := fun H' e => e.trans h
  simp [wdCells]
  by_cases k3 : w.2.kind = 3
  · have k3' : ((w.2.kind : Nat) : Int) = 3 := by omega
    simp [k3', m1, m2]
    refine aw_drawn [(1, 0), (1, 4)] mixedOrders (by kernel_rfl) ?_
    intro es hes
    simp [m1, m2, rds, heapF]
    refine ⟨?_, ?_⟩
    · subst hes
      exact ⟨by kernel_rfl, by kernel_rfl⟩
    have hr : Syn.rest W inn mer w s = (.mk [105, 110, 116] [] w.2.n w.1 [], s) := by simp [Syn.rest, k3]
    rw [hr]
    refine ⟨?_, by simp [hp1, hp2, hp3]; exact h, fun j x hjp hj => ?_⟩
    · exact .old (by simp [AV.idLt, AV.allLt])
    · have := old j x hj
      have k1 : j ≠ H.next := by omega
      have k2 : j ≠ H.next + 1 := by omega
      have k4 : j ≠ H.next + 1 + 1 := by omega
      simp [hj, hjp, k1, k2, k4]
  · have k3' : ¬ ((w.2.kind : Nat) : Int) = 3 := by omega
    simp [k3', m1, m2, text_beq]
    by_cases tT : w.2.text = [116, 114, 117, 101]
    · simp [tT, m1, m2]
      have hr : Syn.rest W inn mer w s = (.mk [98, 111, 111, 108] [] 1 w.1 [], s) := by simp [Syn.rest, k3, tT]
      rw [hr]
      refine ⟨?_, by simp [hp1, hp2, hp3]; exact h, fun j x hjp hj => ?_⟩
      · exact .old (by simp [AV.idLt, AV.allLt])
      · have := old j x hj
        have k1 : j ≠ H.next := by omega
        have k2 : j ≠ H.next + 1 := by omega
        have k4 : j ≠ H.next + 1 + 1 := by omega
        simp [hj, hjp, k1, k2, k4]
    simp [tT, m1, m2, text_beq]
    by_cases tF : w.2.text = [102, 97, 108, 115, 101]
    · simp [tF, m1, m2]
      have hr : Syn.rest W inn mer w s = (.mk [98, 111, 111, 108] [] 0 w.1 [], s) := by simp [Syn.rest, k3, tT, tF]
      rw [hr]
      refine ⟨?_, by simp [hp1, hp2, hp3]; exact h, fun j x hjp hj => ?_⟩
      · exact .old (by simp [AV.idLt, AV.allLt])
      · have := old j x hj
        have k1 : j ≠ H.next := by omega
        have k2 : j ≠ H.next + 1 := by omega
        have k4 : j ≠ H.next + 1 + 1 := by omega
        simp [hj, hjp, k1, k2, k4]
    simp [tF, m1, m2, text_beq]
    by_cases k1 : w.2.kind = 1
    · have k1' : ((w.2.kind : Nat) : Int) = 1 := by omega
      simp [k1', m1, m2]
      refine aw_drawn [(1, 0), (1, 4)] mixedOrders (by kernel_rfl) ?_
      intro es hes
      simp [m1, m2, rds, heapF]
      refine ⟨?_, ?_⟩
      · subst hes
        exact ⟨by kernel_rfl, by kernel_rfl⟩
      refine does_use (p_take hW (hP0 _ (by simp [hp1, hp2, hp3])) hi [40]) ?_
      rintro _ H2 ⟨rfl, rfl⟩
      by_cases ho : Syn.is W s [40] = true
      · have hi2 := ok_succ hW hi (is_kind ho).2
        simp [Syn.take, ho, hp1, hp2, hp3, hq1, hq2, hq3]
        refine does_use (p_arguments hW hn hk _ { s with i := s.i + 1 } (by unfold PAt; simp [hp3]) hi2) ?_
        rintro _ H3 ⟨rfl, rfl⟩
        rcases hy : Syn.arguments W inn { s with i := s.i + 1 } with ⟨l, s4⟩
        simp [hp1, hp2, hp3, hq1, hq2, hq3, m1, m2]
        have hr : Syn.rest W inn mer w s = (.mk [99, 97, 108, 108] w.2.text 0 w.1 l, s4) := by simp [Syn.rest, k3, tT, tF, k1, ho, hy]
        rw [hr]
        refine ⟨?_, by simp [hp1, hp2, hp3], fun j x hjp hj => ?_⟩
        · rw [exCells_mk]
          exact .old (by simp [AV.idLt, AV.allLt, kidsV_lt])
        · have := old j x hj
          have k1 : j ≠ H.next := by omega
          have k2 : j ≠ H.next + 1 := by omega
          have k4 : j ≠ H.next + 1 + 1 := by omega
          simp [hj, hjp, k1, k2, k4]
      · have ho' : Syn.is W s [40] = false := by simpa using ho
        simp [Syn.take, ho', hp1, hp2, hp3, hq1, hq2, hq3, m1, m2]
        have hr : Syn.rest W inn mer w s = (.mk [118, 97, 114] w.2.text 0 w.1 [], s) := by simp [Syn.rest, k3, tT, tF, k1, ho']
        rw [hr]
        refine ⟨?_, by simp [hp1, hp2, hp3], fun j x hjp hj => ?_⟩
        · exact .old (by simp [AV.idLt, AV.allLt])
        · have := old j x hj
          have k1 : j ≠ H.next := by omega
          have k2 : j ≠ H.next + 1 := by omega
          have k4 : j ≠ H.next + 1 + 1 := by omega
          simp [hj, hjp, k1, k2, k4]
    have k1' : ¬ ((w.2.kind : Nat) : Int) = 1 := by omega
    simp [k1', m1, m2, text_beq]
    by_cases tI : w.2.text = [105, 102]
    · simp [tI, m1, m2]
      refine aw_drawn [(1, 0), (1, 5)] mixedOrders (by kernel_rfl) ?_
      intro es hes
      simp [m1, m2, hp1, hp2, hp3, hq1, hq2, hq3]
      refine ⟨_, _, hn _ s (hP0 _ (by simp [hp1, hp2, hp3])) hi, by simp, ?_⟩
      have hiA := hk.i s hi
      rcases hA : inn s with ⟨⟨opA, nmA, nA, poA, ksA⟩, sA⟩
      rw [hA] at hiA
      simp only at hiA
      simp [exCells_mk, m1, m2, m3, m4, m5, m6, hp1, hp2, hp3, hp4, hq1, hq2, hq3, hq4, rds, heapF]
      refine ⟨?_, ?_⟩
      · subst hes
        exact ⟨by kernel_rfl, by kernel_rfl⟩
      have c2 : H.next ≠ H.next + 1 + 1 := by omega
      have e2 : H.next + 1 + 1 ≠ H.next := by omega
      have c3 : H.next ≠ H.next + 1 + 1 + 1 := by omega
      have e3 : H.next + 1 + 1 + 1 ≠ H.next := by omega
      have c4 : H.next ≠ H.next + 1 + 1 + 1 + 1 := by omega
      have e4 : H.next + 1 + 1 + 1 + 1 ≠ H.next := by omega
      have c5 : H.next ≠ H.next + 1 + 1 + 1 + 1 + 1 := by omega
      have e5 : H.next + 1 + 1 + 1 + 1 + 1 ≠ H.next := by omega
      have c6 : H.next ≠ H.next + 1 + 1 + 1 + 1 + 1 + 1 := by omega
      have e6 : H.next + 1 + 1 + 1 + 1 + 1 + 1 ≠ H.next := by omega
      have c7 : H.next ≠ H.next + 1 + 1 + 1 + 1 + 1 + 1 + 1 := by omega
      have e7 : H.next + 1 + 1 + 1 + 1 + 1 + 1 + 1 ≠ H.next := by omega
      have c8 : H.next ≠ H.next + 1 + 1 + 1 + 1 + 1 + 1 + 1 + 1 := by omega
      have e8 : H.next + 1 + 1 + 1 + 1 + 1 + 1 + 1 + 1 ≠ H.next := by omega
      have c9 : H.next ≠ H.next + 1 + 1 + 1 + 1 + 1 + 1 + 1 + 1 + 1 := by omega
      have e9 : H.next + 1 + 1 + 1 + 1 + 1 + 1 + 1 + 1 + 1 ≠ H.next := by omega
      have c10 : H.next ≠ H.next + 1 + 1 + 1 + 1 + 1 + 1 + 1 + 1 + 1 + 1 := by omega
      have e10 : H.next + 1 + 1 + 1 + 1 + 1 + 1 + 1 + 1 + 1 + 1 ≠ H.next := by omega
      have pp5 : p ≠ H.next + 1 + 1 + 1 + 1 + 1 := by omega
      have qq5 := Ne.symm pp5
      have pp6 : p ≠ H.next + 1 + 1 + 1 + 1 + 1 + 1 := by omega
      have qq6 := Ne.symm pp6
      have pp7 : p ≠ H.next + 1 + 1 + 1 + 1 + 1 + 1 + 1 := by omega
      have qq7 := Ne.symm pp7
      have pp8 : p ≠ H.next + 1 + 1 + 1 + 1 + 1 + 1 + 1 + 1 := by omega
      have qq8 := Ne.symm pp8
      have pp9 : p ≠ H.next + 1 + 1 + 1 + 1 + 1 + 1 + 1 + 1 + 1 := by omega
      have qq9 := Ne.symm pp9
      have pp10 : p ≠ H.next + 1 + 1 + 1 + 1 + 1 + 1 + 1 + 1 + 1 + 1 := by omega
      have qq10 := Ne.symm pp10
      have pp4 : p ≠ H.next + 1 + 1 + 1 + 1 := by omega
      have qq4 := Ne.symm pp4
      refine does_use (p_want hW (W := W) (s := sA) (by unfold PAt; simp [hp1, hp2, hp3, hp4, hq1, hq2, hq3, hq4, c2, e2, c3, e3, c4, e4, c5, e5, c6, e6, c7, e7, c8, e8, c9, e9, c10, e10, pp4, qq4, pp5, qq5, pp6, qq6, pp7, qq7, pp8, qq8, pp9, qq9, pp10, qq10]) hiA [[116, 104, 101, 110]] (H.next + 1 + 1 + 1 + 1 + 1) 1 false (by simp) (by omega) (by simp)) ?_
      rintro _ H2 ⟨rfl, rfl⟩
      have hiT := want_ok hW [[116, 104, 101, 110]] hiA
      obtain ⟨sT, hsT⟩ : ∃ x, x = Syn.want W sA [[116, 104, 101, 110]] := ⟨_, rfl⟩
      rw [← hsT] at hiT ⊢
      simp [hp1, hp2, hp3, hp4, hq1, hq2, hq3, hq4, c2, e2, c3, e3, c4, e4, c5, e5, c6, e6, c7, e7, c8, e8, c9, e9, c10, e10, pp4, qq4, pp5, qq5, pp6, qq6, pp7, qq7, pp8, qq8, pp9, qq9, pp10, qq10]
      refine aw_drawn [(1, 0), (1, 5)] mixedOrders (by kernel_rfl) ?_
      intro es hes
      simp [hp1, hp2, hp3, hp4, hq1, hq2, hq3, hq4, c2, e2, c3, e3, c4, e4, c5, e5, c6, e6, c7, e7, c8, e8, c9, e9, c10, e10, pp4, qq4, pp5, qq5, pp6, qq6, pp7, qq7, pp8, qq8, pp9, qq9, pp10, qq10]
      refine ⟨_, _, hn _ sT (by unfold PAt; simp [hp1, hp2, hp3, hp4, hq1, hq2, hq3, hq4, c2, e2, c3, e3, c4, e4, c5, e5, c6, e6, c7, e7, c8, e8, c9, e9, c10, e10, pp4, qq4, pp5, qq5, pp6, qq6, pp7, qq7, pp8, qq8, pp9, qq9, pp10, qq10]) hiT, by simp, ?_⟩
      have hiB := hk.i sT hiT
      rcases hB : inn sT with ⟨⟨opB, nmB, nB, poB, ksB⟩, sB⟩
      rw [hB] at hiB
      simp only at hiB
      simp [exCells_mk, hp1, hp2, hp3, hp4, hq1, hq2, hq3, hq4, c2, e2, c3, e3, c4, e4, c5, e5, c6, e6, c7, e7, c8, e8, c9, e9, c10, e10, pp4, qq4, pp5, qq5, pp6, qq6, pp7, qq7, pp8, qq8, pp9, qq9, pp10, qq10, rds, heapF]
      refine ⟨?_, ?_⟩
      · subst hes
        exact ⟨by kernel_rfl, by kernel_rfl⟩
      refine does_use (p_want hW (W := W) (s := sB) (by unfold PAt; simp [hp1, hp2, hp3, hp4, hq1, hq2, hq3, hq4, c2, e2, c3, e3, c4, e4, c5, e5, c6, e6, c7, e7, c8, e8, c9, e9, c10, e10, pp4, qq4, pp5, qq5, pp6, qq6, pp7, qq7, pp8, qq8, pp9, qq9, pp10, qq10]) hiB [[101, 108, 115, 101]] (H.next + 1 + 1 + 1 + 1 + 1 + 1 + 1 + 1) 1 false (by simp) (by omega) (by simp)) ?_
      rintro _ H2 ⟨rfl, rfl⟩
      have hiE := want_ok hW [[101, 108, 115, 101]] hiB
      obtain ⟨sE, hsE⟩ : ∃ x, x = Syn.want W sB [[101, 108, 115, 101]] := ⟨_, rfl⟩
      rw [← hsE] at hiE ⊢
      simp [hp1, hp2, hp3, hp4, hq1, hq2, hq3, hq4, c2, e2, c3, e3, c4, e4, c5, e5, c6, e6, c7, e7, c8, e8, c9, e9, c10, e10, pp4, qq4, pp5, qq5, pp6, qq6, pp7, qq7, pp8, qq8, pp9, qq9, pp10, qq10]
      refine aw_drawn [(1, 0), (1, 5)] mixedOrders (by kernel_rfl) ?_
      intro es hes
      simp [hp1, hp2, hp3, hp4, hq1, hq2, hq3, hq4, c2, e2, c3, e3, c4, e4, c5, e5, c6, e6, c7, e7, c8, e8, c9, e9, c10, e10, pp4, qq4, pp5, qq5, pp6, qq6, pp7, qq7, pp8, qq8, pp9, qq9, pp10, qq10]
      refine ⟨_, _, hn _ sE (by unfold PAt; simp [hp1, hp2, hp3, hp4, hq1, hq2, hq3, hq4, c2, e2, c3, e3, c4, e4, c5, e5, c6, e6, c7, e7, c8, e8, c9, e9, c10, e10, pp4, qq4, pp5, qq5, pp6, qq6, pp7, qq7, pp8, qq8, pp9, qq9, pp10, qq10]) hiE, by simp, ?_⟩
      have hiC := hk.i sE hiE
      rcases hC : inn sE with ⟨⟨opC, nmC, nC, poC, ksC⟩, sC⟩
      rw [hC] at hiC
      simp only at hiC
      simp [exCells_mk, hp1, hp2, hp3, hp4, hq1, hq2, hq3, hq4, c2, e2, c3, e3, c4, e4, c5, e5, c6, e6, c7, e7, c8, e8, c9, e9, c10, e10, pp4, qq4, pp5, qq5, pp6, qq6, pp7, qq7, pp8, qq8, pp9, qq9, pp10, qq10, rds, heapF]
      refine ⟨?_, ?_⟩
      · subst hes
        exact ⟨by kernel_rfl, by kernel_rfl⟩
      have hT1 : Syn.want1 W sA [116, 104, 101, 110] = sT := hsT.symm
      have hE1 : Syn.want1 W sB [101, 108, 115, 101] = sE := hsE.symm
      have hr : Syn.rest W inn mer w s = (.mk w.2.text [] 0 w.1 [.mk opA nmA nA poA ksA, .mk opB nmB nB poB ksB, .mk opC nmC nC poC ksC], sC) := by simp [Syn.rest, k3, tT, tF, k1, tI, hA, hT1, hB, hE1, hC]
      rw [hr]
      refine ⟨?_, by simp [hp1, hp2, hp3, hp4, hq1, hq2, hq3, hq4, c2, e2, c3, e3, c4, e4, c5, e5, c6, e6, c7, e7, c8, e8, c9, e9, c10, e10, pp4, qq4, pp5, qq5, pp6, qq6, pp7, qq7, pp8, qq8, pp9, qq9, pp10, qq10], fun j x hjp hj => ?_⟩
      · rw [exCells_mk, tI]
        refine .agg (.cons (.old rfl) (.cons (.old rfl) (.cons (.old rfl) (.cons (.old rfl) (.cons ?_ .nil)))))
        have hkk : kidsV [Syn.Ex.mk opA nmA nA poA ksA, Syn.Ex.mk opB nmB nB poB ksB, Syn.Ex.mk opC nmC nC poC ksC] = .vsl (exsCells [Syn.Ex.mk opA nmA nA poA ksA, Syn.Ex.mk opB nmB nB poB ksB, Syn.Ex.mk opC nmC nC poC ksC]) 3 := rfl
        rw [hkk]
        refine .sl (cs := exsCells [Syn.Ex.mk opA nmA nA poA ksA, Syn.Ex.mk opB nmB nB poB ksB, Syn.Ex.mk opC nmC nC poC ksC]) (by omega) ?_ ?_
        · simp [exsCells, exCells_mk, hp1, hp2, hp3, hp4, hq1, hq2, hq3, hq4, c2, e2, c3, e3, c4, e4, c5, e5, c6, e6, c7, e7, c8, e8, c9, e9, c10, e10, pp4, qq4, pp5, qq5, pp6, qq6, pp7, qq7, pp8, qq8, pp9, qq9, pp10, qq10]
        · simp only [exsCells, exCells_mk]
          exact .old (by simp [AV.allLt, AV.idLt, kidsV_lt])
      · have := old j x hj
        have j0 : j ≠ H.next := by omega
        have j1 : j ≠ H.next + 1 := by omega
        have j2 : j ≠ H.next + 1 + 1 := by omega
        have j3 : j ≠ H.next + 1 + 1 + 1 := by omega
        have j4 : j ≠ H.next + 1 + 1 + 1 + 1 := by omega
        have j5 : j ≠ H.next + 1 + 1 + 1 + 1 + 1 := by omega
        have j6 : j ≠ H.next + 1 + 1 + 1 + 1 + 1 + 1 := by omega
        have j7 : j ≠ H.next + 1 + 1 + 1 + 1 + 1 + 1 + 1 := by omega
        have j8 : j ≠ H.next + 1 + 1 + 1 + 1 + 1 + 1 + 1 + 1 := by omega
        have j9 : j ≠ H.next + 1 + 1 + 1 + 1 + 1 + 1 + 1 + 1 + 1 := by omega
        have j10 : j ≠ H.next + 1 + 1 + 1 + 1 + 1 + 1 + 1 + 1 + 1 + 1 := by omega
        simp [hj, hjp, j0, j1, j2, j3, j4, j5, j6, j7, j8, j9, j10]
    · simp [tI, m1, m2, text_beq]
      refine does_use (p_name hW (hP0 _ (by simp [hp1, hp2, hp3])) hi) ?_
      rintro _ H2 ⟨rfl, rfl⟩
      have hiN := name_ok hW hi
      rcases hN : Syn.name W s with ⟨nmN, sN⟩
      rw [hN] at hiN
      simp only at hiN
      simp [hp1, hp2, hp3, hq1, hq2, hq3, m1, m2]
      refine does_use (hm _ sN (by unfold PAt; simp [hp3]) hiN) ?_
      rintro _ H2 ⟨rfl, rfl⟩
      have hiA := hkm.i sN hiN
      rcases hA : mer sN with ⟨⟨opA, nmA, nA, poA, ksA⟩, sA⟩
      rw [hA] at hiA
      simp only at hiA
      simp
      refine does_use (hm _ sA (by unfold PAt; simp) hiA) ?_
      rintro _ H2 ⟨rfl, rfl⟩
      rcases hB : mer sA with ⟨⟨opB, nmB, nB, poB, ksB⟩, sB⟩
      simp [exCells_mk, m1, m2, m3, m4, m5, m6, hp1, hp2, hp3, hp4, hq1, hq2, hq3, hq4]
      have hr : Syn.rest W inn mer w s = (.mk w.2.text nmN 0 w.1 [.mk opA nmA nA poA ksA, .mk opB nmB nB poB ksB], sB) := by simp [Syn.rest, k3, tT, tF, k1, tI, hN, hA, hB]
      rw [hr]
      refine ⟨?_, by simp [hp1, hp2, hp3, hp4], fun j x hjp hj => ?_⟩
      · rw [exCells_mk]
        refine .agg (.cons (.old rfl) (.cons (.old rfl) (.cons (.old rfl) (.cons (.old rfl) (.cons ?_ .nil)))))
        have hkk : kidsV [Syn.Ex.mk opA nmA nA poA ksA, Syn.Ex.mk opB nmB nB poB ksB] = .vsl (exsCells [Syn.Ex.mk opA nmA nA poA ksA, Syn.Ex.mk opB nmB nB poB ksB]) 2 := rfl
        rw [hkk]
        refine .sl (cs := exsCells [Syn.Ex.mk opA nmA nA poA ksA, Syn.Ex.mk opB nmB nB poB ksB]) (by omega) ?_ ?_
        · simp [exsCells, exCells_mk, m1, m2, m3, m4, m5, m6, hp4, hq4]
        · simp only [exsCells, exCells_mk]
          exact .old (by simp [AV.allLt, AV.idLt, kidsV_lt])
      · have := old j x hj
        have k1 : j ≠ H.next := by omega
        have k2 : j ≠ H.next + 1 := by omega
        have k4 : j ≠ H.next + 1 + 1 := by omega
        have k5 : j ≠ H.next + 1 + 1 + 1 := by omega
        simp [hj, hjp, k1, k2, k4, k5]
end Go.Proofs.YthmnpnbcdoemfaaGreatDoor

namespace Go.Proofs.YthmnpnbcdoemfaaGreatDoor
open Go Go.Abs Go.Lex
set_option linter.unusedSimpArgs false
variable {G : Nat → Option AV}
def Kp (W : Syn.Ws) (s s' : Syn.St) : Prop := s.i < W.length → s'.i < W.length ∧ mu W s' ≤ mu W s
theorem Kp.refl {W : Syn.Ws} (s : Syn.St) : Kp W s s := fun h => ⟨h, Nat.le_refl _⟩
theorem Kp.trans {W : Syn.Ws} {a b c : Syn.St} (h : Kp W a b) (g : Kp W b c) : Kp W a c := fun hi => by
  obtain ⟨h1, h2⟩ := h hi
  obtain ⟨g1, g2⟩ := g h1
  exact ⟨g1, Nat.le_trans g2 h2⟩
theorem kp_fail {W : Syn.Ws} {e : Nat} (he : e ≠ 0) (s : Syn.St) : Kp W s (Syn.fail W e s) := fun hi => ⟨by rw [fail_i]; exact hi, mu_fail W he s⟩
theorem kp_want1 {W : Syn.Ws} (hW : WsOk W) (s : Syn.St) (t : Bs) : Kp W s (Syn.want1 W s t) := fun hi => ⟨want1_ok hW hi t, want1_mu W s t⟩
theorem kp_take {W : Syn.Ws} (hW : WsOk W) (s : Syn.St) (t : Bs) : Kp W s (Syn.take W s t).2 := fun hi => ⟨take_ok hW hi t, take_mu W s t⟩
theorem kp_name {W : Syn.Ws} (hW : WsOk W) (s : Syn.St) : Kp W s (Syn.name W s).2 := fun hi => ⟨name_ok hW hi, name_mu W s⟩
theorem kp_deeper {W : Syn.Ws} (b : Bool) (s : Syn.St) : Kp W s (Syn.deeper W b s).2 := fun hi => ⟨by rw [deeper_i]; exact hi, deeper_mu W b s⟩
theorem kp_part {W : Syn.Ws} (hW : WsOk W) {s : Syn.St} (hk : (Syn.at_ W s).2.kind ≠ 0) : Kp W s (Syn.part W s) := fun hi => ⟨part_ok hW hi hk, part_mu' s⟩
theorem kp_succ {W : Syn.Ws} (hW : WsOk W) {s : Syn.St} (hk : (Syn.at_ W s).2.kind ≠ 0) : Kp W s { s with i := s.i + 1 } := fun hi => ⟨ok_succ hW hi hk, mu_succ W s⟩
theorem Keeps.kp {W : Syn.Ws} {g : Syn.P} (h : Keeps W g) (s : Syn.St) : Kp W s (g s).2 := fun hi => ⟨h.i s hi, h.mu s hi⟩
theorem keeps_of {W : Syn.Ws} {g : Syn.P} (h : ∀ s, Kp W s (g s).2) : Keeps W g := ⟨fun s hi => (h s hi).1, fun s hi => (h s hi).2⟩
theorem right_keeps {W : Syn.Ws} (hW : WsOk W) {next below : Syn.P} (t : Bs) (b : Bool) (hn : Keeps W next) (hb : Keeps W below) : Keeps W (Syn.right W next t b below) := keeps_of fun s => by
  unfold Syn.right
  have h1 := hn.kp s
  rcases hx : next s with ⟨e, s1⟩
  rw [hx] at h1
  simp only at h1 ⊢
  split
  · rename_i ht
    have h2 := kp_part hW (is_kind ht).2
    have h3 := kp_deeper (W := W) b (Syn.part W s1)
    rcases hd : Syn.deeper W b (Syn.part W s1) with ⟨c, s2⟩
    rw [hd] at h3
    simp only at h3 ⊢
    cases c
    · exact h1.trans (h2.trans h3)
    · exact h1.trans (h2.trans (h3.trans (hb.kp s2)))
  · exact h1
theorem row_keeps {W : Syn.Ws} (hW : WsOk W) {next : Syn.P} (ts : List Bs) (hn : Keeps W next) : Keeps W (Syn.row W next ts) := keeps_of fun s => by
  have hL : ∀ (m : Nat) (e : Syn.Ex) (s : Syn.St), Kp W s (Syn.rowL W next ts m e s).2 := by
    intro m
    induction m with
    | zero => intro e s; exact Kp.refl s
    | succ m ih =>
      intro e s
      unfold Syn.rowL
      split
      · rename_i ho
        have h2 := kp_part hW (one_kind ho).2
        have h3 := hn.kp (Syn.part W s)
        rcases hx : next (Syn.part W s) with ⟨e2, s2⟩
        rw [hx] at h3
        simp only at h3 ⊢
        exact h2.trans (h3.trans (ih _ _))
      · exact Kp.refl s
  unfold Syn.row
  have h1 := hn.kp s
  rcases hx : next s with ⟨e, s1⟩
  rw [hx] at h1
  simp only at h1 ⊢
  exact h1.trans (hL _ _ _)
theorem cmp_keeps {W : Syn.Ws} (hW : WsOk W) {next : Syn.P} (hn : Keeps W next) : Keeps W (Syn.cmp W next) := keeps_of fun s => by
  unfold Syn.cmp
  have h1 := hn.kp s
  rcases hx : next s with ⟨e, s1⟩
  rw [hx] at h1
  simp only at h1 ⊢
  split
  · rename_i ho
    have h2 := kp_part hW (one_kind ho).2
    have h3 := hn.kp (Syn.part W s1)
    rcases hy : next (Syn.part W s1) with ⟨e2, s2⟩
    rw [hy] at h3
    simp only at h3 ⊢
    exact h1.trans (h2.trans h3)
  · exact h1
theorem when_keeps {W : Syn.Ws} (hW : WsOk W) {next : Syn.P} (hn : Keeps W next) : Keeps W (Syn.when_ W next) := keeps_of fun s => by
  have hL : ∀ (m : Nat) (e : Syn.Ex) (s : Syn.St), Kp W s (Syn.whenL W m e s).2 := by
    intro m
    induction m with
    | zero => intro e s; exact Kp.refl s
    | succ m ih =>
      intro e s
      unfold Syn.whenL
      split
      · rename_i ho
        have h2 := kp_part hW (is_kind ho).2
        have h3 := kp_take hW (Syn.part W s) [110, 111, 116]
        rcases hx : Syn.take W (Syn.part W s) [110, 111, 116] with ⟨b, s2⟩
        rw [hx] at h3
        have h4 := kp_name hW s2
        rcases hy : Syn.name W s2 with ⟨nm, s3⟩
        rw [hy] at h4
        simp only at h3 h4 ⊢
        rw [hy]
        exact h2.trans (h3.trans (h4.trans (ih _ _)))
      · exact Kp.refl s
  unfold Syn.when_
  have h1 := hn.kp s
  rcases hx : next s with ⟨e, s1⟩
  rw [hx] at h1
  simp only at h1 ⊢
  exact h1.trans (hL _ _ _)
theorem un_keeps {W : Syn.Ws} (hW : WsOk W) {prim below : Syn.P} (b : Bool) (hn : Keeps W prim) (hb : Keeps W below) : Keeps W (Syn.un W prim b below) := keeps_of fun s => by
  unfold Syn.un
  split
  · rename_i ho
    have h2 := kp_part hW (one_kind ho).2
    have h3 := kp_deeper (W := W) b (Syn.part W s)
    rcases hd : Syn.deeper W b (Syn.part W s) with ⟨c, s2⟩
    rw [hd] at h3
    simp only at h3 ⊢
    cases c
    · exact h2.trans h3
    · exact h2.trans (h3.trans (hb.kp s2))
  · exact hn.kp s
theorem rest_keeps {W : Syn.Ws} (hW : WsOk W) {inn mer : Syn.P} (hn : Keeps W inn) (hm : Keeps W mer) (w : Nat × Wd) (s : Syn.St) : Kp W s (Syn.rest W inn mer w s).2 := by
  unfold Syn.rest
  split
  · exact Kp.refl s
  split
  · exact Kp.refl s
  split
  · exact Kp.refl s
  split
  · split
    · rename_i ho
      have h1 := kp_succ hW (is_kind ho).2
      obtain ⟨g1, g2⟩ := arguments_keeps hW hn
      exact h1.trans fun hi => ⟨g1 _ hi, g2 _ hi⟩
    · exact Kp.refl s
  split
  · have h1 := hn.kp s
    rcases hA : inn s with ⟨a, sA⟩
    rw [hA] at h1
    simp only at h1 ⊢
    have h2 := kp_want1 hW sA [116, 104, 101, 110]
    have h3 := hn.kp (Syn.want1 W sA [116, 104, 101, 110])
    rcases hB : inn (Syn.want1 W sA [116, 104, 101, 110]) with ⟨b, sB⟩
    rw [hB] at h3
    simp only at h3 ⊢
    have h4 := kp_want1 hW sB [101, 108, 115, 101]
    have h5 := hn.kp (Syn.want1 W sB [101, 108, 115, 101])
    exact h1.trans (h2.trans (h3.trans (h4.trans h5)))
  · have h1 := kp_name hW s
    rcases hN : Syn.name W s with ⟨nm, sN⟩
    rw [hN] at h1
    simp only at h1 ⊢
    have h2 := hm.kp sN
    rcases hA : mer sN with ⟨a, sA⟩
    rw [hA] at h2
    simp only at h2 ⊢
    exact h1.trans (h2.trans (hm.kp sA))
theorem prim_keeps {W : Syn.Ws} (hW : WsOk W) {inn mer : Syn.P} (hn : Keeps W inn) (hm : Keeps W mer) : Keeps W (Syn.prim W inn mer) := keeps_of fun s => by
  unfold Syn.prim
  simp only
  split
  · exact Kp.refl s
  split
  · rename_i ho
    have h1 := kp_succ hW (is_kind ho).2
    have h2 := hn.kp { s with i := s.i + 1 }
    exact h1.trans (h2.trans (kp_want1 hW _ _))
  split
  · rename_i hk
    have hk0 : (Syn.at_ W s).2.kind ≠ 0 := by
      rcases hk with h | h | h
      · omega
      · omega
      · exact (one_kind h).2
    exact (kp_part hW hk0).trans (rest_keeps hW hn hm _ _)
  · exact kp_fail (by omega) s
set_option maxHeartbeats 2000000 in
set_option maxRecDepth 100000 in
theorem p_or {W : Syn.Ws} (hW : WsOk W) {p : Nat} {d : Int} {next : Syn.P} (hn : Reads G W p 167 d next) (hk : Keeps W next) : Reads G W p 115 d (Syn.row W next [[111, 114], [120, 111, 114]]) := by
  intro H s h hi
  refine PRes.deep h ?_
  refine Does.wf Tryz.call115 fun hw _ => ?_
  have old : ∀ j x, H.get j = some x → j < H.next := fun j x hj => next_lt hw hj
  refine does_f Tryz.call115 Tryz.func115 rfl (by simp [Tryz.f115]) ?_
  have hpl := old _ _ h
  have hp1 : p ≠ H.next := by omega
  have hp2 : p ≠ H.next + 1 := by omega
  have hq1 := Ne.symm hp1
  have hq2 := Ne.symm hp2
  simp
  refine does_use (p_row hW hn hk _ s (by unfold PAt; simp [hp1, hp2]; exact h) hi [[111, 114], [120, 111, 114]] (H.next + 1) 2 false (by simp) (by omega) (by simp)) ?_
  rintro _ H1 ⟨rfl, rfl⟩
  rcases hx : (Syn.row W next [[111, 114], [120, 111, 114]]) s with ⟨⟨op, nm, n, po, ks⟩, s1⟩
  simp [exCells_mk, hp1, hp2, hq1, hq2]
  refine ⟨?_, by simp [hp1, hp2], fun j x hjp hj => ?_⟩
  · simp only
    rw [exCells_mk]
    exact .old (by simp [AV.idLt, AV.allLt, kidsV_lt])
  · have := old j x hj
    have k1 : j ≠ H.next := by omega
    have k2 : j ≠ H.next + 1 := by omega
    simp [hj, hjp, k1, k2]
set_option maxHeartbeats 2000000 in
set_option maxRecDepth 100000 in
theorem p_and {W : Syn.Ws} (hW : WsOk W) {p : Nat} {d : Int} {next : Syn.P} (hn : Reads G W p 202 d next) (hk : Keeps W next) : Reads G W p 167 d (Syn.row W next [[97, 110, 100]]) := by
  intro H s h hi
  refine PRes.deep h ?_
  refine Does.wf Tryz.call167 fun hw _ => ?_
  have old : ∀ j x, H.get j = some x → j < H.next := fun j x hj => next_lt hw hj
  refine does_f Tryz.call167 Tryz.func167 rfl (by simp [Tryz.f167]) ?_
  have hpl := old _ _ h
  have hp1 : p ≠ H.next := by omega
  have hp2 : p ≠ H.next + 1 := by omega
  have hq1 := Ne.symm hp1
  have hq2 := Ne.symm hp2
  simp
  refine does_use (p_row hW hn hk _ s (by unfold PAt; simp [hp1, hp2]; exact h) hi [[97, 110, 100]] (H.next + 1) 1 false (by simp) (by omega) (by simp)) ?_
  rintro _ H1 ⟨rfl, rfl⟩
  rcases hx : (Syn.row W next [[97, 110, 100]]) s with ⟨⟨op, nm, n, po, ks⟩, s1⟩
  simp [exCells_mk, hp1, hp2, hq1, hq2]
  refine ⟨?_, by simp [hp1, hp2], fun j x hjp hj => ?_⟩
  · simp only
    rw [exCells_mk]
    exact .old (by simp [AV.idLt, AV.allLt, kidsV_lt])
  · have := old j x hj
    have k1 : j ≠ H.next := by omega
    have k2 : j ≠ H.next + 1 := by omega
    simp [hj, hjp, k1, k2]
set_option maxHeartbeats 2000000 in
set_option maxRecDepth 100000 in
theorem p_add {W : Syn.Ws} (hW : WsOk W) {p : Nat} {d : Int} {next : Syn.P} (hn : Reads G W p 238 d next) (hk : Keeps W next) : Reads G W p 227 d (Syn.row W next [[43], [45]]) := by
  intro H s h hi
  refine PRes.deep h ?_
  refine Does.wf Tryz.call227 fun hw _ => ?_
  have old : ∀ j x, H.get j = some x → j < H.next := fun j x hj => next_lt hw hj
  refine does_f Tryz.call227 Tryz.func227 rfl (by simp [Tryz.f227]) ?_
  have hpl := old _ _ h
  have hp1 : p ≠ H.next := by omega
  have hp2 : p ≠ H.next + 1 := by omega
  have hq1 := Ne.symm hp1
  have hq2 := Ne.symm hp2
  simp
  refine does_use (p_row hW hn hk _ s (by unfold PAt; simp [hp1, hp2]; exact h) hi [[43], [45]] (H.next + 1) 2 false (by simp) (by omega) (by simp)) ?_
  rintro _ H1 ⟨rfl, rfl⟩
  rcases hx : (Syn.row W next [[43], [45]]) s with ⟨⟨op, nm, n, po, ks⟩, s1⟩
  simp [exCells_mk, hp1, hp2, hq1, hq2]
  refine ⟨?_, by simp [hp1, hp2], fun j x hjp hj => ?_⟩
  · simp only
    rw [exCells_mk]
    exact .old (by simp [AV.idLt, AV.allLt, kidsV_lt])
  · have := old j x hj
    have k1 : j ≠ H.next := by omega
    have k2 : j ≠ H.next + 1 := by omega
    simp [hj, hjp, k1, k2]
set_option maxHeartbeats 2000000 in
set_option maxRecDepth 100000 in
theorem p_mul {W : Syn.Ws} (hW : WsOk W) {p : Nat} {d : Int} {next : Syn.P} (hn : Reads G W p 244 d next) (hk : Keeps W next) : Reads G W p 238 d (Syn.row W next [[42], [47], [109, 111, 100]]) := by
  intro H s h hi
  refine PRes.deep h ?_
  refine Does.wf Tryz.call238 fun hw _ => ?_
  have old : ∀ j x, H.get j = some x → j < H.next := fun j x hj => next_lt hw hj
  refine does_f Tryz.call238 Tryz.func238 rfl (by simp [Tryz.f238]) ?_
  have hpl := old _ _ h
  have hp1 : p ≠ H.next := by omega
  have hp2 : p ≠ H.next + 1 := by omega
  have hq1 := Ne.symm hp1
  have hq2 := Ne.symm hp2
  simp
  refine does_use (p_row hW hn hk _ s (by unfold PAt; simp [hp1, hp2]; exact h) hi [[42], [47], [109, 111, 100]] (H.next + 1) 3 false (by simp) (by omega) (by simp)) ?_
  rintro _ H1 ⟨rfl, rfl⟩
  rcases hx : (Syn.row W next [[42], [47], [109, 111, 100]]) s with ⟨⟨op, nm, n, po, ks⟩, s1⟩
  simp [exCells_mk, hp1, hp2, hq1, hq2]
  refine ⟨?_, by simp [hp1, hp2], fun j x hjp hj => ?_⟩
  · simp only
    rw [exCells_mk]
    exact .old (by simp [AV.idLt, AV.allLt, kidsV_lt])
  · have := old j x hj
    have k1 : j ≠ H.next := by omega
    have k2 : j ≠ H.next + 1 := by omega
    simp [hj, hjp, k1, k2]
set_option maxHeartbeats 2000000 in
set_option maxRecDepth 100000 in
theorem p_fby {W : Syn.Ws}  {p : Nat} {d : Int} {next : Syn.P} (hn : RightC G W p 250 [102, 98, 121] d next) : Reads G W p 244 d (next) := by
  intro H s h hi
  refine PRes.deep h ?_
  refine Does.wf Tryz.call244 fun hw _ => ?_
  have old : ∀ j x, H.get j = some x → j < H.next := fun j x hj => next_lt hw hj
  refine does_f Tryz.call244 Tryz.func244 rfl (by simp [Tryz.f244]) ?_
  have hpl := old _ _ h
  have hp1 : p ≠ H.next := by omega
  have hp2 : p ≠ H.next + 1 := by omega
  have hq1 := Ne.symm hp1
  have hq2 := Ne.symm hp2
  simp
  refine does_use (hn _ s (by unfold PAt; simp [hp1]; exact h) hi) ?_
  rintro _ H1 ⟨rfl, rfl⟩
  rcases hx : (next) s with ⟨⟨op, nm, n, po, ks⟩, s1⟩
  simp [exCells_mk, hp1, hp2, hq1, hq2]
  refine ⟨?_, by simp [hp1, hp2], fun j x hjp hj => ?_⟩
  · simp only
    rw [exCells_mk]
    exact .old (by simp [AV.idLt, AV.allLt, kidsV_lt])
  · have := old j x hj
    have k1 : j ≠ H.next := by omega
    have k2 : j ≠ H.next + 1 := by omega
    simp [hj, hjp, k1, k2]
set_option maxHeartbeats 2000000 in
set_option maxRecDepth 100000 in
theorem p_expr {W : Syn.Ws}  {p : Nat} {d : Int} {next : Syn.P} (hn : RightC G W p 115 [45, 62] d next) : Reads G W p 59 d (next) := by
  intro H s h hi
  refine PRes.deep h ?_
  refine Does.wf Tryz.call59 fun hw _ => ?_
  have old : ∀ j x, H.get j = some x → j < H.next := fun j x hj => next_lt hw hj
  refine does_f Tryz.call59 Tryz.func59 rfl (by simp [Tryz.f59]) ?_
  have hpl := old _ _ h
  have hp1 : p ≠ H.next := by omega
  have hp2 : p ≠ H.next + 1 := by omega
  have hq1 := Ne.symm hp1
  have hq2 := Ne.symm hp2
  simp
  refine does_use (hn _ s (by unfold PAt; simp [hp1]; exact h) hi) ?_
  rintro _ H1 ⟨rfl, rfl⟩
  rcases hx : (next) s with ⟨⟨op, nm, n, po, ks⟩, s1⟩
  simp [exCells_mk, hp1, hp2, hq1, hq2]
  refine ⟨?_, by simp [hp1, hp2], fun j x hjp hj => ?_⟩
  · simp only
    rw [exCells_mk]
    exact .old (by simp [AV.idLt, AV.allLt, kidsV_lt])
  · have := old j x hj
    have k1 : j ≠ H.next := by omega
    have k2 : j ≠ H.next + 1 := by omega
    simp [hj, hjp, k1, k2]
end Go.Proofs.YthmnpnbcdoemfaaGreatDoor

namespace Go.Proofs.YthmnpnbcdoemfaaGreatDoor
open Go Go.Abs Go.Lex
set_option linter.unusedSimpArgs false
variable {G : Nat → Option AV}
set_option maxHeartbeats 8000000 in
set_option maxRecDepth 100000 in
theorem p_prim {W : Syn.Ws} (hW : WsOk W) {p : Nat} {d : Int} {inn mer : Syn.P} (hn : Reads G W p 255 d inn) (hk : Keeps W inn) (hm : Reads G W p 258 d mer) (hkm : Keeps W mer) :
    Reads G W p 254 d (Syn.prim W inn mer) := by
  intro H s h hi
  refine PRes.deep h ?_
  refine Does.wf Tryz.call254 fun hw _ => ?_
  have old : ∀ j x, H.get j = some x → j < H.next := fun j x hj => next_lt hw hj
  refine does_f Tryz.call254 Tryz.func254 rfl (by simp [Tryz.f254]) ?_
  have hpl := old _ _ h
  have hp1 : p ≠ H.next := by omega
  have hp2 : p ≠ H.next + 1 := by omega
  have hp3 : p ≠ H.next + 1 + 1 := by omega
  have hp4 : p ≠ H.next + 1 + 1 + 1 := by omega
  have hq1 := Ne.symm hp1
  have hq2 := Ne.symm hp2
  have hq3 := Ne.symm hp3
  have hq4 := Ne.symm hp4
  have m1 : H.next ≠ H.next + 1 + 1 := by omega
  have m2 : H.next + 1 + 1 ≠ H.next := by omega
  have m3 : H.next ≠ H.next + 1 + 1 + 1 := by omega
  have m4 : H.next + 1 + 1 + 1 ≠ H.next := by omega
  have hP0 : ∀ H' : AHeap, H'.get p = H.get p → PAt H' p W s := fun H' e => e.trans h
  have hkeep : ∀ j x, H.get j = some x → j ≠ H.next ∧ j ≠ H.next + 1 ∧ j ≠ H.next + 1 + 1 ∧ j ≠ H.next + 1 + 1 + 1 := fun j x hj => by have := old j x hj; omega
  simp
  refine does_use (p_word (hP0 _ (by simp [hp1])) hi) ?_
  rintro _ H1 ⟨rfl, rfl⟩
  simp [wdCells]
  refine does_use (p_ok (hP0 _ (by simp [hp1, hp2]))) ?_
  rintro _ H1 ⟨rfl, rfl⟩
  by_cases h0 : s.err = 0
  · simp [h0]
    refine does_use (p_take hW (hP0 _ (by simp [hp1, hp2])) hi [40]) ?_
    rintro _ H1 ⟨rfl, rfl⟩
    by_cases ho : Syn.is W s [40] = true
    · have hi2 := ok_succ hW hi (is_kind ho).2
      simp [Syn.take, ho]
      refine does_use (hn _ { s with i := s.i + 1 } (PAt.set _) hi2) ?_
      rintro _ H2 ⟨rfl, rfl⟩
      have hi3 := hk.i { s with i := s.i + 1 } hi2
      rcases hy : inn { s with i := s.i + 1 } with ⟨⟨op, nm, n, po, ks⟩, s4⟩
      rw [hy] at hi3
      simp only at hi3
      simp [exCells_mk, hp1, hp2, hp3, hq1, hq2, hq3]
      refine does_use (p_want hW (W := W) (s := s4) (by unfold PAt; simp [hp1, hp2, hp3, hp4]) hi3 [[41]] (H.next + 1 + 1 + 1) 1 false (by simp) (by omega) (by simp)) ?_
      rintro _ H2 ⟨rfl, rfl⟩
      have hw1 : Syn.want W s4 [[41]] = Syn.want1 W s4 [41] := rfl
      have hr : Syn.prim W inn mer s = (.mk op nm n po ks, Syn.want1 W s4 [41]) := by
        unfold Syn.prim
        simp only
        rw [if_neg (fun e => e h0), if_pos ho, hy]
      simp [hw1, hp1, hp2, hp3, hp4, hq1, hq2, hq3, hq4, m1, m2, m3, m4]
      rw [hr]
      refine ⟨?_, by simp [hp1, hp2, hp3, hp4], fun j x hjp hj => ?_⟩
      · rw [exCells_mk]
        exact .old (by simp [AV.idLt, AV.allLt, kidsV_lt])
      · obtain ⟨k1, k2, k3, k4⟩ := hkeep j x hj
        simp [hj, hjp, k1, k2, k3, k4]
    · have ho' : Syn.is W s [40] = false := by simpa using ho
      simp [Syn.take, ho', hp1, hp2, hp3, hq1, hq2, hq3]
      have hsame : ∀ H' : AHeap, H'.get p = some (.cells (stCells W s)) → H'.set p (.cells (stCells W s)) = H' := fun H' e => set_same e
      -- what comes behind, told of the word's kind
      have fin : ∀ (r : AV) (H' : AHeap) (x : Syn.Ex × Syn.St), Syn.prim W inn mer s = x → r = .agg (exCells x.1) → H'.get p = some (.cells (stCells W x.2)) → (∀ j y, j ≠ p → H.get j = some y → H'.get j = some y) → PRes H p W (Syn.prim W inn mer s) r H' := by
        rintro r H' x hx rfl h1 h2
        rw [hx]
        exact ⟨.old (by simpa [AV.idLt] using exCells_lt _ _), h1, h2⟩
      have rst : ∀ (hk0 : (Syn.at_ W s).2.kind = 3 ∨ (Syn.at_ W s).2.kind = 1 ∨ Syn.one W s [[116, 114, 117, 101], [102, 97, 108, 115, 101], [105, 102], [109, 101, 114, 103, 101]] = true), (Syn.at_ W s).2.kind ≠ 0 ∧ Syn.prim W inn mer s = Syn.rest W inn mer (Syn.at_ W s) (Syn.part W s) := by
        intro hk0
        refine ⟨?_, by unfold Syn.prim; simp only; rw [if_neg (fun e => e h0), if_neg ho, if_pos hk0]⟩
        rcases hk0 with e | e | e
        · omega
        · omega
        · exact (one_kind e).2
      by_cases k3 : (Syn.at_ W s).2.kind = 3
      · have k3' : ((((Syn.at_ W s).2.kind : Nat) : Int) = 3) = True := eq_true (by omega)
        obtain ⟨hk0, hr⟩ := rst (.inl k3)
        simp [k3', hp1, hp2, hp3, hq1, hq2, hq3]
        refine does_use (p_part hW (PAt.set _) hi) ?_
        rintro _ H2 ⟨rfl, rfl⟩
        have hi2 := part_ok hW hi hk0
        simp [hp1, hp2, hp3, hq1, hq2, hq3]
        refine does_use (p_rest hW hn hk hm hkm _ (Syn.part W s) (PAt.set _) hi2 (Syn.at_ W s)) ?_
        rintro _ H2 ⟨rfl, rfl⟩
        rcases hy : Syn.rest W inn mer (Syn.at_ W s) (Syn.part W s) with ⟨⟨op, nm, n, po, ks⟩, s4⟩
        simp [exCells_mk, hp1, hp2, hp3, hq1, hq2, hq3]
        refine fin _ _ _ (hr.trans hy) (by rw [exCells_mk]) (by simp [hp1, hp2, hp3]) fun j x hjp hj => ?_
        obtain ⟨k1, k2, k3, k4⟩ := hkeep j x hj
        simp [hj, hjp, k1, k2, k3, k4]
      · have k3' : ((((Syn.at_ W s).2.kind : Nat) : Int) = 3) = False := eq_false (by omega)
        by_cases k1 : (Syn.at_ W s).2.kind = 1
        · have k1' : ((((Syn.at_ W s).2.kind : Nat) : Int) = 1) = True := eq_true (by omega)
          obtain ⟨hk0, hr⟩ := rst (.inr (.inl k1))
          simp [k3', k1', hp1, hp2, hp3, hq1, hq2, hq3]
          refine does_use (p_part hW (PAt.set _) hi) ?_
          rintro _ H2 ⟨rfl, rfl⟩
          have hi2 := part_ok hW hi hk0
          simp [hp1, hp2, hp3, hq1, hq2, hq3]
          refine does_use (p_rest hW hn hk hm hkm _ (Syn.part W s) (PAt.set _) hi2 (Syn.at_ W s)) ?_
          rintro _ H2 ⟨rfl, rfl⟩
          rcases hy : Syn.rest W inn mer (Syn.at_ W s) (Syn.part W s) with ⟨⟨op, nm, n, po, ks⟩, s4⟩
          simp [exCells_mk, hp1, hp2, hp3, hq1, hq2, hq3]
          refine fin _ _ _ (hr.trans hy) (by rw [exCells_mk]) (by simp [hp1, hp2, hp3]) fun j x hjp hj => ?_
          obtain ⟨k1, k2, k3, k4⟩ := hkeep j x hj
          simp [hj, hjp, k1, k2, k3, k4]
        · have k1' : ((((Syn.at_ W s).2.kind : Nat) : Int) = 1) = False := eq_false (by omega)
          simp [k3', k1', hp1, hp2, hp3, hq1, hq2, hq3]
          refine does_use (p_one (W := W) (s := s) (by unfold PAt; simp [hp1, hp2, hp3]) hi [[116, 114, 117, 101], [102, 97, 108, 115, 101], [105, 102], [109, 101, 114, 103, 101]] (H.next + 1 + 1) 4 false (by simp [hp3, hq3]) (by simp)) ?_
          rintro _ H2 ⟨rfl, rfl⟩
          by_cases h1 : Syn.one W s [[116, 114, 117, 101], [102, 97, 108, 115, 101], [105, 102], [109, 101, 114, 103, 101]] = true
          · obtain ⟨hk0, hr⟩ := rst (.inr (.inr h1))
            simp [h1, hp1, hp2, hp3, hq1, hq2, hq3]
            refine does_use (p_part hW (W := W) (s := s) (by unfold PAt; simp [hp1, hp2, hp3]) hi) ?_
            rintro _ H2 ⟨rfl, rfl⟩
            have hi2 := part_ok hW hi hk0
            simp [hp1, hp2, hp3, hq1, hq2, hq3]
            refine does_use (p_rest hW hn hk hm hkm _ (Syn.part W s) (PAt.set _) hi2 (Syn.at_ W s)) ?_
            rintro _ H2 ⟨rfl, rfl⟩
            rcases hy : Syn.rest W inn mer (Syn.at_ W s) (Syn.part W s) with ⟨⟨op, nm, n, po, ks⟩, s4⟩
            simp [exCells_mk, hp1, hp2, hp3, hq1, hq2, hq3, m1, m2]
            refine fin _ _ _ (hr.trans hy) (by rw [exCells_mk]) (by simp [hp1, hp2, hp3]) fun j x hjp hj => ?_
            obtain ⟨k1, k2, k3, k4⟩ := hkeep j x hj
            simp [hj, hjp, k1, k2, k3, k4]
          · have h1' : Syn.one W s [[116, 114, 117, 101], [102, 97, 108, 115, 101], [105, 102], [109, 101, 114, 103, 101]] = false := by simpa using h1
            simp [h1', hp1, hp2, hp3, hq1, hq2, hq3]
            refine does_use (p_fail (W := W) (s := s) (by unfold PAt; simp [hp1, hp2, hp3]) hi 7) ?_
            rintro _ H2 ⟨rfl, rfl⟩
            have hr : Syn.prim W inn mer s = (.zero, Syn.fail W 7 s) := by
              unfold Syn.prim
              simp only
              rw [if_neg (fun e => e h0), if_neg ho, if_neg (fun e => e.elim k3 fun e => e.elim k1 h1)]
            simp [hp1, hp2, hp3, hq1, hq2, hq3, m1, m2]
            refine fin _ _ _ hr rfl (by simp [hp1, hp2, hp3]) fun j x hjp hj => ?_
            obtain ⟨k1, k2, k3, k4⟩ := hkeep j x hj
            simp [hj, hjp, k1, k2, k3, k4]
  · simp [h0]
    have hr : Syn.prim W inn mer s = (.zero, s) := by
      unfold Syn.prim
      simp only
      rw [if_pos h0]
    rw [hr]
    refine ⟨.old rfl, by simp [hp1, hp2]; exact h, fun j x hjp hj => ?_⟩
    obtain ⟨k1, k2, k3, k4⟩ := hkeep j x hj
    simp [hj, hjp, k1, k2, k3, k4]
end Go.Proofs.YthmnpnbcdoemfaaGreatDoor

namespace Go.Proofs.YthmnpnbcdoemfaaGreatDoor
open Go Go.Abs Go.Lex
set_option linter.unusedSimpArgs false
variable {G : Nat → Option AV}
structure LvC (G : Nat → Option AV) (W : Syn.Ws) (p : Nat) (D : Int) (L : Syn.Lv) : Prop where
  prim : Reads G W p 254 D L.prim
  un : Reads G W p 253 D L.un
  fby : RightC G W p 250 [102, 98, 121] D L.fby
  expr : RightC G W p 115 [45, 62] D L.expr
structure LvK (W : Syn.Ws) (L : Syn.Lv) : Prop where
  prim : Keeps W L.prim
  un : Keeps W L.un
  fby : Keeps W L.fby
  expr : Keeps W L.expr
theorem lvOf_k {W : Syn.Ws} (hW : WsOk W) (b : Bool) {L : Syn.Lv} (k : LvK W L) : LvK W (Syn.lvOf W b L) := by
  have kp := prim_keeps hW (inner_keeps (b := b) k.expr) (inner_keeps (b := b) k.prim)
  have ku := un_keeps hW b kp k.un
  have kw := when_keeps hW ku
  have kf := right_keeps hW [102, 98, 121] b kw k.fby
  have km := row_keeps hW [[42], [47], [109, 111, 100]] kf
  have ka := row_keeps hW [[43], [45]] km
  have kc := cmp_keeps hW ka
  have kn := row_keeps hW [[97, 110, 100]] kc
  have ko := row_keeps hW [[111, 114], [120, 111, 114]] kn
  have ke := right_keeps hW [45, 62] b ko k.expr
  generalize hp : Syn.prim W (Syn.inner W b L.expr) (Syn.inner W b L.prim) = gp at *
  generalize hu : Syn.un W gp b L.un = gu at *
  generalize hf : Syn.right W (Syn.when_ W gu) [102, 98, 121] b L.fby = gf at *
  generalize he : Syn.right W (Syn.row W (Syn.row W (Syn.cmp W (Syn.row W (Syn.row W gf [[42], [47], [109, 111, 100]]) [[43], [45]])) [[97, 110, 100]]) [[111, 114], [120, 111, 114]]) [45, 62] b L.expr = ge at *
  have e : Syn.lvOf W b L = ⟨ge, gf, gu, gp⟩ := by
    unfold Syn.lvOf
    simp only [hp, hu, hf, he]
  rw [e]
  exact ⟨kp, ku, kf, ke⟩
theorem lvOf_c {W : Syn.Ws} (hW : WsOk W) {p : Nat} {D : Int} (hd1 : 1 ≤ D) (hd2 : D ≤ 30) {L : Syn.Lv} (k : LvK W L) (hb : D ≠ 30 → LvC G W p (D + 1) L) : LvC G W p D (Syn.lvOf W (decide (D = 30)) L) := by
  have hin := p_inner hd1 hd2 (fun e => p_expr (hb e).expr)
  have hmer := p_merged hd1 hd2 (fun e => (hb e).prim)
  have hprim := p_prim hW hin (inner_keeps k.expr) hmer (inner_keeps k.prim)
  have kp := prim_keeps hW (inner_keeps (b := decide (D = 30)) k.expr) (inner_keeps (b := decide (D = 30)) k.prim)
  have hun := p_un hW hd1 hd2 hprim (fun e => (hb e).un)
  have ku := un_keeps hW (decide (D = 30)) kp k.un
  have hwhen := p_when hW hun ku
  have kw := when_keeps hW ku
  have hfbyR := p_right hW hd1 hd2 hwhen kw (fun e => (hb e).fby)
  have kf := right_keeps hW [102, 98, 121] (decide (D = 30)) kw k.fby
  have hmul := p_mul hW (p_fby hfbyR) kf
  have km := row_keeps hW [[42], [47], [109, 111, 100]] kf
  have hadd := p_add hW hmul km
  have ka := row_keeps hW [[43], [45]] km
  have hcmp := p_cmp hW hadd ka
  have kc := cmp_keeps hW ka
  have hand := p_and hW hcmp kc
  have kn := row_keeps hW [[97, 110, 100]] kc
  have hor := p_or hW hand kn
  have ko := row_keeps hW [[111, 114], [120, 111, 114]] kn
  have hex := p_right hW hd1 hd2 hor ko (fun e => (hb e).expr)
  generalize hp : Syn.prim W (Syn.inner W (decide (D = 30)) L.expr) (Syn.inner W (decide (D = 30)) L.prim) = gp at *
  generalize hu : Syn.un W gp (decide (D = 30)) L.un = gu at *
  generalize hf : Syn.right W (Syn.when_ W gu) [102, 98, 121] (decide (D = 30)) L.fby = gf at *
  generalize he : Syn.right W (Syn.row W (Syn.row W (Syn.cmp W (Syn.row W (Syn.row W gf [[42], [47], [109, 111, 100]]) [[43], [45]])) [[97, 110, 100]]) [[111, 114], [120, 111, 114]]) [45, 62] (decide (D = 30)) L.expr = ge at *
  have e : Syn.lvOf W (decide (D = 30)) L = ⟨ge, gf, gu, gp⟩ := by
    unfold Syn.lvOf
    simp only [hp, hu, hf, he]
  rw [e]
  exact ⟨hprim, hun, hfbyR, hex⟩
theorem zero_k (W : Syn.Ws) : LvK W ⟨fun s => (.zero, s), fun s => (.zero, s), fun s => (.zero, s), fun s => (.zero, s)⟩ :=
  ⟨keeps_of fun s => Kp.refl s, keeps_of fun s => Kp.refl s, keeps_of fun s => Kp.refl s, keeps_of fun s => Kp.refl s⟩
theorem lv_k {W : Syn.Ws} (hW : WsOk W) : ∀ d, LvK W (Syn.lv W d)
  | 0 => lvOf_k hW true (zero_k W)
  | d + 1 => lvOf_k hW false (lv_k hW d)
theorem lv_c {W : Syn.Ws} (hW : WsOk W) (p : Nat) : ∀ d : Nat, d ≤ 29 → LvC G W p (30 - d) (Syn.lv W d)
  | 0, _ => by
    have h := lvOf_c (G := G) hW (p := p) (D := 30) (by omega) (by omega) (zero_k W) (fun e => absurd rfl e)
    exact h
  | d + 1, hd => by
    have ih := lv_c hW p d (by omega)
    have e : (30 : Int) - ((d + 1 : Nat) : Int) + 1 = 30 - d := by omega
    have h := lvOf_c (G := G) hW (p := p) (D := 30 - ((d + 1 : Nat) : Int)) (by omega) (by omega) (lv_k hW d) (fun _ => by rw [e]; exact ih)
    have e2 : decide ((30 : Int) - ((d + 1 : Nat) : Int) = 30) = false := by
      rw [decide_eq_false_iff_not]; omega
    rw [e2] at h
    exact h
theorem p_top {W : Syn.Ws} (hW : WsOk W) (p : Nat) : Reads G W p 59 1 (Syn.lv W 29).expr := p_expr (lv_c hW p 29 (by omega)).expr
theorem top_keeps {W : Syn.Ws} (hW : WsOk W) : Keeps W (Syn.lv W 29).expr := (lv_k hW 29).expr
end Go.Proofs.YthmnpnbcdoemfaaGreatDoor

namespace Go.Proofs.YthmnpnbcdoemfaaGreatDoor
open Go Go.Abs Go.Lex
set_option linter.unusedSimpArgs false
variable {G : Nat → Option AV}
def vaCells (v : Syn.Va) : List AV := [.str v.name, .int .i64 v.kind, .str v.on, .bool v.neg, .int .i64 v.pos]
def vasCells : List Syn.Va → List AV
  | [] => []
  | v :: l => vaCells v ++ vasCells l
theorem vasCells_len : ∀ l : List Syn.Va, (vasCells l).length = l.length * 5
  | [] => rfl
  | v :: l => by rw [vasCells, List.length_append, vasCells_len l]; simp [vaCells]; omega
theorem vasCells_append : ∀ a b : List Syn.Va, vasCells (a ++ b) = vasCells a ++ vasCells b
  | [], b => rfl
  | v :: a, b => by rw [List.cons_append, vasCells, vasCells, vasCells_append a b, List.append_assoc]
theorem vasCells_lt (n : Nat) : ∀ l : List Syn.Va, AV.allLt n (vasCells l) = true
  | [] => rfl
  | v :: l => by rw [vasCells, allLt_app, vasCells_lt n l]; simp [vaCells, AV.allLt, AV.idLt]
theorem vasCells_scalar : ∀ l : List Syn.Va, ∀ x ∈ vasCells l, x.scalar = true
  | [], x, h => by simp [vasCells] at h
  | v :: l, x, h => by
    simp only [vasCells, vaCells, List.cons_append, List.nil_append, List.mem_cons] at h
    rcases h with rfl | rfl | rfl | rfl | rfl | h
    · rfl
    · rfl
    · rfl
    · rfl
    · rfl
    · exact vasCells_scalar l x h
theorem kp_declared {W : Syn.Ws} (hW : WsOk W) (s : Syn.St) : Kp W s (Syn.declared W s).2 := by
  have h1 : ∀ s' : Syn.St, s'.i = s.i → s'.err = s.err → Kp W s s' := fun s' e1 e2 hi => ⟨by omega, by unfold mu; rw [e1, e2]; exact Nat.le_refl _⟩
  unfold Syn.declared
  simp only
  refine Kp.trans ?_ (kp_name hW _)
  split
  · split
    · exact (h1 { s with names := Syn.wrap (s.names + 1) } rfl rfl).trans (kp_fail (by omega) _)
    · exact h1 _ rfl rfl
  · exact Kp.refl s
set_option maxHeartbeats 4000000 in
set_option maxRecDepth 100000 in
theorem p_declared {W : Syn.Ws} (hW : WsOk W) {s : Syn.St} {p : Nat} {H : AHeap} (h : PAt H p W s) (hi : s.i < W.length) : Does Tryz.prog G 163 [.ptr p 0] H fun r H' => r = .agg (vaCells (Syn.declared W s).1) ∧ H' = H.set p (.cells (stCells W (Syn.declared W s).2)) := by
  refine Does.deep (R := fun r H' => r = .agg (vaCells (Syn.declared W s).1) ∧ H'.get p = some (.cells (stCells W (Syn.declared W s).2)) ∧ ∀ j x, j ≠ p → H.get j = some x → H'.get j = some x) ?_ ?_
  · refine Does.wf Tryz.call163 fun hw _ => ?_
    have old : ∀ j x, H.get j = some x → j ≠ H.next ∧ j ≠ H.next + 1 := fun j x hj => by have := next_lt hw hj; omega
    refine does_f Tryz.call163 Tryz.func163 rfl (by simp [Tryz.f163]) ?_
    obtain ⟨hp1, hp2⟩ := old _ _ h
    have hq1 := Ne.symm hp1
    have hq2 := Ne.symm hp2
    have hw2 : IntKind.i64.wrap (s.names + 1) = Syn.wrap (s.names + 1) := wrap_eq _
    simp
    refine does_use (p_word (W := W) (s := s) (by unfold PAt; simp [hp1]; exact h) hi) ?_
    rintro _ H1 ⟨rfl, rfl⟩
    have h' := h
    unfold PAt stCells at h'
    simp [wdCells]
    by_cases hk : (Syn.at_ W s).2.kind = 1
    · have hk' : ((((Syn.at_ W s).2.kind : Nat) : Int) = 1) = True := eq_true (by omega)
      by_cases hc : 64 < Syn.wrap (s.names + 1)
      · simp [hk', h', hp1, hp2, hw2, hc]
        refine does_use (p_fail (W := W) (s := { s with names := Syn.wrap (s.names + 1) }) (by unfold PAt stCells; simp) hi 2) ?_
        rintro _ H2 ⟨rfl, rfl⟩
        have hi2 : (Syn.fail W 2 { s with names := Syn.wrap (s.names + 1) }).i < W.length := by rw [fail_i]; exact hi
        obtain ⟨s1, hs1⟩ : ∃ s1, s1 = Syn.fail W 2 { s with names := Syn.wrap (s.names + 1) } := ⟨_, rfl⟩
        have hd : Syn.declared W s = (⟨(Syn.name W s1).1, 0, [], false, (Syn.at_ W s).1⟩, (Syn.name W s1).2) := by
          unfold Syn.declared
          simp only [hk, if_true, hc, ← hs1]
        rw [← hs1] at hi2 ⊢
        rcases hn : Syn.name W s1 with ⟨nm, s2⟩
        rw [hn] at hd
        simp [hp1, hp2, hq1, hq2]
        refine aw_drawn [(3, 0), (3, 2)] mixedOrders (by kernel_rfl) ?_
        intro es hes
        simp
        refine ⟨_, _, p_name hW (PAt.set _) hi2, by simp, ?_⟩
        simp [hn, hp1, hp2, hq1, hq2, rds, heapF]
        refine ⟨?_, ?_⟩
        · subst hes
          exact ⟨by kernel_rfl, by kernel_rfl⟩
        rw [hd]
        simp [vaCells, hp1, hp2]
        intro j x hjp hj
        obtain ⟨k1, k2⟩ := old j x hj
        simp [hj, hjp, k1, k2]
      · simp [hk', h', hp1, hp2, hw2, hc]
        obtain ⟨s1, hs1⟩ : ∃ s1 : Syn.St, s1 = { s with names := Syn.wrap (s.names + 1) } := ⟨_, rfl⟩
        have hd : Syn.declared W s = (⟨(Syn.name W s1).1, 0, [], false, (Syn.at_ W s).1⟩, (Syn.name W s1).2) := by
          unfold Syn.declared
          simp only [hk, if_true, hc, if_false, ← hs1]
        have hi2 : s1.i < W.length := by rw [hs1]; exact hi
        rcases hn : Syn.name W s1 with ⟨nm, s2⟩
        rw [hn] at hd
        refine aw_drawn [(3, 0), (3, 2)] mixedOrders (by kernel_rfl) ?_
        intro es hes
        simp
        refine ⟨_, _, p_name hW (W := W) (s := s1) (by unfold PAt; rw [hs1]; simp [stCells]) hi2, by simp, ?_⟩
        simp [hn, hp1, hp2, hq1, hq2, rds, heapF]
        refine ⟨?_, ?_⟩
        · subst hes
          exact ⟨by kernel_rfl, by kernel_rfl⟩
        rw [hd]
        simp [vaCells, hp1, hp2]
        intro j x hjp hj
        obtain ⟨k1, k2⟩ := old j x hj
        simp [hj, hjp, k1, k2]
    · have hk' : ((((Syn.at_ W s).2.kind : Nat) : Int) = 1) = False := eq_false (by omega)
      have hd : Syn.declared W s = (⟨(Syn.name W s).1, 0, [], false, (Syn.at_ W s).1⟩, (Syn.name W s).2) := by
        unfold Syn.declared
        simp only [hk, if_false]
      rcases hn : Syn.name W s with ⟨nm, s2⟩
      rw [hn] at hd
      simp [hk', h', hp1, hp2]
      refine aw_drawn [(3, 0), (3, 2)] mixedOrders (by kernel_rfl) ?_
      intro es hes
      simp
      refine ⟨_, _, p_name hW (W := W) (s := s) (by unfold PAt stCells; simp [hp1, hp2, h']) hi, by simp, ?_⟩
      simp [hn, hp1, hp2, hq1, hq2, rds, heapF]
      refine ⟨?_, ?_⟩
      · subst hes
        exact ⟨by kernel_rfl, by kernel_rfl⟩
      rw [hd]
      simp [vaCells, hp1, hp2]
      intro j x hjp hj
      obtain ⟨k1, k2⟩ := old j x hj
      simp [hj, hjp, k1, k2]
  · rintro hw ha r H1 ⟨rfl, h1, h2⟩
    exact ⟨_, H.set p (.cells (stCells W (Syn.declared W s).2)), .old (by simp [AV.idLt, AV.allLt, vaCells]), rfl, set_back hw h h1 h2, rfl, rfl⟩
end Go.Proofs.YthmnpnbcdoemfaaGreatDoor
