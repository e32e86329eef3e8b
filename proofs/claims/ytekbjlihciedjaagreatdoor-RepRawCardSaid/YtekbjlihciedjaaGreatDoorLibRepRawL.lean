/-
  Own library of this claim, part 12: texts one behind the other (FrL, RwA).
-/
import Derived.Test.YtekbjlihciedjaaGreatDoorLibRepRawK
set_option linter.unusedVariables false
set_option linter.unusedSimpArgs false

namespace Go.Abs
open Go
def fz (l : List AV) : AV := if l.isEmpty then .nilsl else .vsl l l.length
def ri (l : List Int) : List AV := l.map fun n => .int .i64 n
def Rws (n : Nat) (H : AHeap) (v : AV) (row : Nat → List Int) (w i : Nat) (S : Nat → Prop) : Prop :=
  (i = 0 ∧ v = .nilsl) ∨ (0 < i ∧ ∃ (b : Nat) (ρ : Nat → Nat), v = .sl b 0 1 i i true ∧ S b ∧ n ≤ b ∧ b < H.next ∧ H.get b = some (.cells ((List.range i).map fun k => .sl (ρ k) 0 1 w w false)) ∧
    ∀ k, k < i → S (ρ k) ∧ n ≤ ρ k ∧ ρ k < H.next ∧ ρ k ≠ b ∧ H.get (ρ k) = some (.cells (ri (row k))))
def Rows2 (H0 H : AHeap) (v1 v2 : AV) (rowA : Nat → List Int) (wA : Nat) (rowB : Nat → List Int) (wB i : Nat) : Prop :=
  ∃ S1 S2 : Nat → Prop, Rws H0.next H v1 rowA wA i S1 ∧ Rws H0.next H v2 rowB wB i S2 ∧ (∀ j, S1 j → ¬ S2 j) ∧ (∀ j, S1 j → H0.next ≤ j ∧ j < H.next) ∧ (∀ j, S2 j → H0.next ≤ j ∧ j < H.next) ∧
    (∀ j x, H0.get j = some x → H.get j = some x) ∧ H0.next ≤ H.next
def Arr (f : Nat → AV) (n : Nat) (a : AV) : Prop := (n = 0 ∧ a = .nilsl) ∨ a = .vsl ((List.range n).map f) n
theorem flat_of {α : Type} {f : α → AV} {p : α → Prop} : ∀ {es : List (List AV)}, (∀ x ∈ es, ∃ m, x = [f m] ∧ p m) → ∃ xs : List α, es.flatten = xs.map f ∧ xs.length = es.length ∧ ∀ m ∈ xs, p m
  | [], _ => ⟨[], rfl, rfl, fun _ h => by simp at h⟩
  | x :: es, h => by
    obtain ⟨m, rfl, hp⟩ := h x (by simp)
    obtain ⟨xs, h1, h2, h3⟩ := flat_of (es := es) fun y hy => h y (by simp [hy])
    refine ⟨m :: xs, by simp [h1], by simp [h2], fun k hk => ?_⟩
    rcases List.mem_cons.1 hk with rfl | hk
    · exact hp
    · exact h3 k hk
theorem map_range {α : Type} (f : α → AV) (d : α) (xs : List α) : xs.map f = (List.range xs.length).map fun k => f (xs.getD k d) := by
  apply List.ext_getElem
  · simp
  · intro i h1 h2
    have hi : i < xs.length := by simpa using h1
    simp [List.getD_eq_getElem?_getD, hi]
theorem shp_arr {P : Program} {t e : TypeId} {α : Type} (d : α) {f : α → AV} {p : α → Prop} (ht : P.underlying t = some (.slice e)) (he : ∀ as_, Shp P 7 e as_ → ∃ m, as_ = [f m] ∧ p m) (hd : p d) {a : AV} (h : Shp P 8 t [a]) :
    ∃ (n : Nat) (c : Nat → α), n ≤ maxLen ∧ (∀ k, p (c k)) ∧ Arr (fun k => f (c k)) n a := by
  unfold Shp at h
  rw [ht] at h
  simp only [List.cons.injEq, and_true] at h
  rcases h with rfl | ⟨es, rfl, hm, h⟩
  · exact ⟨0, fun _ => d, Nat.zero_le _, fun _ => hd, .inl ⟨rfl, rfl⟩⟩
  · obtain ⟨xs, h1, h2, h3⟩ := flat_of fun x hx => he x (h x hx)
    refine ⟨es.length, fun k => xs.getD k d, hm, fun k => ?_, .inr ?_⟩
    · by_cases hk : k < xs.length
      · show p (xs.getD k d)
        rw [List.getD_eq_getElem?_getD, List.getElem?_eq_getElem hk]
        exact h3 _ (List.getElem_mem hk)
      · show p (xs.getD k d)
        rw [List.getD_eq_getElem?_getD, List.getElem?_eq_none (by omega)]
        exact hd
    · rw [h1, map_range f d xs, h2]
end Go.Abs

namespace Go.Proofs.YtekbjlihciedjaaGreatDoor
open Go Go.Abs Go.Rp Go.RowKit
set_option maxRecDepth 100000
theorem rprog_pg : rprog = .agg pgL := by kernel_rfl
theorem rcopy_run : fcall knownP Tryz.prog (Gof tab) 100000 300 55 [rprog] FH.empty (litK rprog) = true := by kernel_rfl
theorem rcopy (H : AHeap) : Does Tryz.prog (Gof tab) 55 [rprog] H fun r h => r = rprog ∧ h = H :=
  lit_does mixed5 plain5 knownP_good gof_tab5 (by kernel_rfl) (by kernel_rfl) rcopy_run H
theorem pgOk : PgOk (Gof tab) pgL := by
  refine ⟨by kernel_rfl, fun x hx => ?_, fun x hx => ?_, fun H => ?_, fun H => ?_, by kernel_rfl, by kernel_rfl⟩
  · have : pgL.all (fun x => x.scalar) = true := by kernel_rfl
    rw [List.all_eq_true] at this; exact this x hx
  · unfold pgL at hx
    simp only [List.mem_cons, List.not_mem_nil, or_false] at hx
    rcases hx with rfl | rfl | rfl | rfl | rfl | rfl <;> rfl
  · have := rvalid H
    rw [rprog_pg] at this; exact this
  · have := rcopy H
    rw [rprog_pg] at this; exact this
theorem rcounter_run : fcall knownP Tryz.prog (Gof tab) 100000 300 12 [] FH.empty (litK rtext) = true := by kernel_rfl
theorem rcounter (H : AHeap) : Does Tryz.prog (Gof tab) 12 [] H fun r h => r = rtext ∧ h = H :=
  lit_does mixed5 plain5 knownP_good gof_tab5 (by kernel_rfl) (by kernel_rfl) rcounter_run H
theorem rprogram_run : fcall knownR1 Tryz.prog (Gof tab) 100000 300 11 [rtext] FH.empty (litK rprog) = true := by kernel_rfl
theorem rprogram (H : AHeap) : Does Tryz.prog (Gof tab) 11 [rtext] H fun r h => r = .agg pgL ∧ h = H := by
  rw [← rprog_pg]
  exact lit_does mixed5 plain5 knownR1_good gof_tab5 (by kernel_rfl) (by kernel_rfl) rprogram_run H
theorem halted_does {G : Nat → Option AV} (H : AHeap) (v : AV) : Does Tryz.prog G 15 [v] H fun r h => r = .bool false ∧ h = H := by
  refine does_f Tryz.call15 Tryz.func15 rfl (by simp [Tryz.f15]) ?_
  simp
theorem shp_bytes {P : Program} {t e : TypeId} (ht : P.underlying t = some (.slice e)) (he : P.underlying e = some (.int .u8)) {a : AV} (h : Shp P 8 t [a]) : ∃ bs, BtA a bs := by
  obtain ⟨n, c, h1, h3, h2⟩ := shp_arr (α := Int) (p := fun m => (Lit.int .u8 m).wf = true) (f := fun b => .int .u8 b) 0 ht (fun xs hs => by
    unfold Shp at hs
    rw [he] at hs
    exact hs) (by decide) h
  rcases h2 with ⟨_, rfl⟩ | rfl
  · exact ⟨[], BtA.nil⟩
  · refine ⟨(List.range n).map fun k => UInt8.ofNat (c k).toNat, .inr ⟨[], ?_⟩⟩
    have e : strCs ((List.range n).map fun k => UInt8.ofNat (c k).toNat) = (List.range n).map fun k => AV.int .u8 (c k) := by
      unfold strCs
      rw [List.map_map]
      refine List.map_congr_left fun k _ => ?_
      have h4 := h3 k
      simp only [Lit.wf, Function.comp] at h4 ⊢
      congr 1
      simp at h4
      have h5 : 0 ≤ c k ∧ c k < 256 := by
        have e1 : IntKind.u8.min = 0 := rfl
        have e2 : IntKind.u8.max = 255 := rfl
        omega
      have : (UInt8.ofNat (c k).toNat).toNat = (c k).toNat := by
        rw [UInt8.toNat_ofNat']
        exact Nat.mod_eq_of_lt (by omega)
      omega
    rw [e]
    simp
structure DkS (d : Dk) : Prop where
  ok : dkOk d
  on : d.off = false
  fuse : d.fuse = 0
  a : d.f0.now.length ≤ 300
  b : d.f1.now.length ≤ 300
  c : d.f2.now.length ≤ 300
theorem DkS.setF {d : Dk} (h : DkS d) {n : Nat} {f : Fl} (g1 : f.now.length ≤ 300) (g2 : f.synced.length ≤ 262144) : DkS (d.setF n f) := by
  obtain ⟨h1, h2, h3, h4, h5, h6⟩ := h
  have hk := dkOk_setF h1 n (f := f) (by omega) g2
  by_cases e0 : n = 0
  · simp only [Dk.setF, if_pos e0] at hk ⊢
    exact ⟨hk, h2, h3, g1, h5, h6⟩
  · by_cases e1 : n = 1
    · simp only [Dk.setF, if_neg e0, if_pos e1] at hk ⊢
      exact ⟨hk, h2, h3, h4, g1, h6⟩
    · simp only [Dk.setF, if_neg e0, if_neg e1] at hk ⊢
      exact ⟨hk, h2, h3, h4, h5, g1⟩
theorem DkS.file {d : Dk} (h : DkS d) (n : Nat) : (d.file n).now.length ≤ 300 := by
  obtain ⟨h1, h2, h3, h4, h5, h6⟩ := h
  unfold Dk.file
  split
  · exact h4
  · split
    · exact h5
    · exact h6
theorem DkS.put {d : Dk} (h : DkS d) {n : Nat} {b : Bs} (hb : b.length ≤ 300) : DkS (d.put n b).2 := by
  have e : d.put n b = (0, d.setF n { d.file n with now := b, other := true }) := by
    have : ¬ 262144 < b.length := by omega
    simp [Dk.put, h.on, Dk.change, this, Dk.blown, h.fuse]
  rw [e]
  exact h.setF hb (synced_len h.ok n)
theorem DkS.sync {d : Dk} (h : DkS d) {n : Nat} : DkS (d.sync n).2 := by
  rw [sync_zero h.on h.fuse]
  exact h.setF (h.file n) (file_len h.ok n)
theorem DkS.new : DkS Dk.new := ⟨by unfold dkOk Dk.new Fl.new; simp, rfl, rfl, by simp [Dk.new, Fl.new], by simp [Dk.new, Fl.new], by simp [Dk.new, Fl.new]⟩
theorem raw_law (H : AHeap) (a0 a1 a2 : AV) (s0 : Shp Tryz.prog 8 22 [a0]) (s1 : Shp Tryz.prog 8 22 [a1]) (s2 : Shp Tryz.prog 8 22 [a2]) :
    Does Tryz.prog (Gof tab) 3 [a0, a1, a2] H fun r _ => r = .bool true := by
  refine Does.wf Tryz.call3 fun hw _ => ?_
  obtain ⟨b0, hb0⟩ := shp_bytes (e := 5) (by simp) (by simp) s0
  obtain ⟨b1, hb1⟩ := shp_bytes (e := 5) (by simp) (by simp) s1
  obtain ⟨b2, hb2⟩ := shp_bytes (e := 5) (by simp) (by simp) s2
  have al : ∀ {a : AV} {b : Bs}, BtA a b → alen Tryz.prog 22 a = some (.int .i64 b.length) := fun {a b} h => by
    rcases h with ⟨rfl, rfl⟩ | ⟨ts, rfl⟩ <;> simp [alen]
  have l0 := al hb0
  have l1 := al hb1
  have l2 := al hb2
  refine does_f Tryz.call3 Tryz.func3 rfl (by simp [Tryz.f3]) ?_
  simp
  refine does_use (rawake H) ?_
  rintro x h ⟨rfl, rfl⟩
  by_cases c0 : 300 < b0.length
  · have c0' : (300 : Int) < b0.length := by omega
    simp [l0, c0, c0', -alen]
  have c0' : ¬ (300 : Int) < b0.length := by omega
  by_cases c1 : 300 < b1.length
  · have c1' : (300 : Int) < b1.length := by omega
    simp [l0, c0, c0', l1, c1, c1', -alen]
  have c1' : ¬ (300 : Int) < b1.length := by omega
  by_cases c2 : 300 < b2.length
  · have c2' : (300 : Int) < b2.length := by omega
    simp [l0, c0, c0', l1, c1, c1', l2, c2, c2', -alen]
  have c2' : ¬ (300 : Int) < b2.length := by omega
  simp [l0, c0, c0', l1, c1, c1', l2, c2, c2', -alen]
  refine does_use (new_does h) ?_
  rintro x g ⟨rfl, cs, hcs, hg⟩
  have hk : DkAt g h.next Dk.new := ⟨cs, hcs, by rw [hg]; simp⟩
  clear hg hcs
  generalize h.next = k at *
  have hs := DkS.new
  generalize Dk.new = d at *
  simp
  refine does_use (put_does hk hs.ok (n := 0) (by decide) hb0 (by omega)) ?_
  rintro x g1 ⟨rfl, ht⟩
  have hk1 := ht.at
  have hs1 := hs.put (n := 0) (b := b0) (by omega)
  generalize d.put 0 b0 = d1 at *
  simp
  refine does_use (put_does hk1 hs1.ok (n := 1) (by decide) hb1 (by omega)) ?_
  rintro x g2 ⟨rfl, ht⟩
  have hk2 := ht.at
  have hs2 := hs1.put (n := 1) (b := b1) (by omega)
  generalize d1.2.put 1 b1 = d2 at *
  simp
  refine does_use (put_does hk2 hs2.ok (n := 2) (by decide) hb2 (by omega)) ?_
  rintro x g3 ⟨rfl, ht⟩
  have hk3 := ht.at
  have hs3 := hs2.put (n := 2) (b := b2) (by omega)
  generalize d2.2.put 2 b2 = d3 at *
  simp
  refine does_use (sync_does hk3 hs3.ok (n := 0) (by decide)) ?_
  rintro x g4 ⟨rfl, ht⟩
  have hk4 := ht.at
  have hs4 := hs3.sync (n := 0)
  generalize d3.2.sync 0 = d4 at *
  simp
  refine does_use (sync_does hk4 hs4.ok (n := 1) (by decide)) ?_
  rintro x g5 ⟨rfl, ht⟩
  have hk5 := ht.at
  have hs5 := hs4.sync (n := 1)
  generalize d4.2.sync 1 = d5 at *
  simp
  refine does_use (sync_does hk5 hs5.ok (n := 2) (by decide)) ?_
  rintro x g6 ⟨rfl, ht⟩
  have hk6 := ht.at
  have hs6 := hs5.sync (n := 2)
  generalize d5.2.sync 2 = d6 at *
  simp
  refine does_use (rcounter _) ?_
  rintro x g7 ⟨rfl, rfl⟩
  simp
  refine does_use (rprogram _) ?_
  rintro x g8 ⟨rfl, rfl⟩
  simp
  refine does_usew (rpOpen_does gof_tab5 (me := 1) (n := 3) (by decide) (by decide) (by decide) hk6 hs6.ok hs6.on hs6.fuse pgOk) ?_
  rintro x g9 hx hw9 _
  obtain ⟨O, hO⟩ : ∃ O, rpo 1 3 d6.2 = O := ⟨_, rfl⟩
  rcases O with _ | ⟨c, last, base⟩
  · unfold OpenR at hx
    rw [hO] at hx
    subst hx
    simp
  obtain ⟨r, ci, pI, O, rfl, hR⟩ := open_at hx hO hs6.ok hs6.on hs6.fuse (by have := hs6.a; omega)
  have hv := (rpo_ok hO hs6.ok).2.2
  simp
  refine does_usew (rpTick_still hR rfl (by show (3 : Nat) ≠ 1; decide) rfl) ?_
  rintro x g10 ⟨rfl, hR2⟩ hw10 _
  have hrn : r < g10.next := by
    obtain ⟨c2, c3, cap, op, c5, bytes, c7, c9, c10, c11, hr, hb⟩ := hR2.cells
    exact next_lt hw10 hr
  simp
  have hR3 := hR2.keep (H' := (g10.push (.cells [.int .i64 5])).frz g10.next [.int .i64 5]) fun j y hj => frz_old1 hw10 (Nat.le_refl _) hj (by
    have := next_lt hw10 hj
    have : j ≠ g10.next := by omega
    simp [this, hj])
  have hsub := rpSubmit_still (G := Gof tab) hR3 rfl (by show (3 : Nat) ≠ 1; decide) (by show (0 : Nat) < 3; decide) (by show (3 : Nat) ≤ 7; decide) (by show (0 : Nat) < 200; decide) (by show c.view < 2 ^ 64; omega) (id := 1) (by decide) (by decide) (x := 5) (ts := [])
  have hsub2 := Does.lend (H := g10.push (.cells [.int .i64 5])) (i := g10.next) (cs := [.int .i64 5]) (args := [.ptr r 0, .int .u64 1, .sl g10.next 0 1 1 1 false]) (by simp) (by
    have e : List.map (AV.frz g10.next [.int .i64 5]) [.ptr r 0, .int .u64 1, .sl g10.next 0 1 1 1 false] = [.ptr r 0, .int .u64 ((1 : Nat) : Int), .vsl (ints [5] ++ []) 1] := by
      have : r ≠ g10.next := by omega
      simp [AV.frz, this, ints]
    rw [e]; exact hsub)
  refine does_use hsub2 ?_
  rintro x g11 ⟨wv, rfl⟩
  simp
  refine does_use (halted_does _ _) ?_
  rintro x g12 ⟨rfl, rfl⟩
  simp
end Go.Proofs.YtekbjlihciedjaaGreatDoor
