/-
  Own library of this claim, part 13: texts one behind the other.
-/
import Derived.Test.YtekbjlihciedjaaGreatDoorLibRepLivesL
set_option maxRecDepth 100000
set_option maxHeartbeats 8000000
set_option linter.unusedVariables false
set_option linter.unusedSimpArgs false
namespace Go.Abs
open Go
def fz (l : List AV) : AV := if l.isEmpty then .nilsl else .vsl l l.length
def ri (l : List Int) : List AV := l.map fun n => .int .i64 n
def Rws (n : Nat) (H : AHeap) (v : AV) (row : Nat -> List Int) (w i : Nat) (S : Nat -> Prop) : Prop :=
 (i = 0 /\ v = .nilsl) \/ (0 < i /\ ∃ (b : Nat) (ρ : Nat -> Nat), v = .sl b 0 1 i i true /\ S b /\ n <= b /\ b < H.next /\ H.get b = some (.cells ((List.range i).map fun k => .sl (ρ k) 0 1 w w false)) /\
   ∀ k, k < i -> S (ρ k) /\ n <= ρ k /\ ρ k < H.next /\ ρ k ≠ b /\ H.get (ρ k) = some (.cells (ri (row k))))
def Rows2 (H0 H : AHeap) (v1 v2 : AV) (rowA : Nat -> List Int) (wA : Nat) (rowB : Nat -> List Int) (wB i : Nat) : Prop :=
 ∃ S1 S2 : Nat -> Prop, Rws H0.next H v1 rowA wA i S1 /\ Rws H0.next H v2 rowB wB i S2 /\ (∀ j, S1 j -> ¬ S2 j) /\ (∀ j, S1 j -> H0.next <= j /\ j < H.next) /\ (∀ j, S2 j -> H0.next <= j /\ j < H.next) /\
   (∀ j x, H0.get j = some x -> H.get j = some x) /\ H0.next <= H.next
def Arr (f : Nat -> AV) (n : Nat) (a : AV) : Prop := (n = 0 /\ a = .nilsl) \/ a = .vsl ((List.range n).map f) n
theorem flat_of {α : Type} {f : α -> AV} {p : α -> Prop} : ∀ {es : List (List AV)}, (∀ x ∈ es, ∃ m, x = [f m] /\ p m) -> ∃ xs : List α, es.flatten = xs.map f /\ xs.length = es.length /\ ∀ m ∈ xs, p m
 | [], _ => ⟨[], rfl, rfl, fun _ h => by simp at h⟩
 | x :: es, h => by
   obtain ⟨m, rfl, hp⟩ := h x (by simp)
   obtain ⟨xs, h1, h2, h3⟩ := flat_of (es := es) fun y hy => h y (by simp [hy])
   refine ⟨m :: xs, by simp [h1], by simp [h2], fun k hk => ?_⟩
   rcases List.mem_cons.1 hk with rfl | hk
   · exact hp
   · exact h3 k hk
theorem map_range {α : Type} (f : α -> AV) (d : α) (xs : List α) : xs.map f = (List.range xs.length).map fun k => f (xs.getD k d) := by
 apply List.ext_getElem
 · simp
 · intro i h1 h2
   have hi : i < xs.length := by simpa using h1
   simp [List.getD_eq_getElem?_getD, hi]
theorem shp_arr {P : Program} {t e : TypeId} {α : Type} (d : α) {f : α -> AV} {p : α -> Prop} (ht : P.underlying t = some (.slice e)) (he : ∀ as_, Shp P 7 e as_ -> ∃ m, as_ = [f m] /\ p m) (hd : p d) {a : AV} (h : Shp P 8 t [a]) :
  ∃ (n : Nat) (c : Nat -> α), n <= maxLen /\ (∀ k, p (c k)) /\ Arr (fun k => f (c k)) n a := by
 unfold Shp at h
 rw [ht] at h
 simp only [List.cons.injEq, and_true] at h
 rcases h with rfl | ⟨es, rfl, hm, h⟩
 · exact ⟨0, fun _ => d, Nat.zero_le _, fun _ => hd, .inl ⟨rfl, rfl⟩⟩
 · obtain ⟨xs, h1, h2, h3⟩ := flat_of fun x hx => he x (h x hx)
   refine ⟨es.length, fun k => xs.getD k d, hm, fun k => ?_, .inr ?_⟩
   · by_cases hk : k < xs.length
     · show p (xs.getD k d)
       rw [List.getD_eq_getElem?_getD, List.getElem?_eq_getElem hk]
       exact h3 _ (List.getElem_mem hk)
     · show p (xs.getD k d)
       rw [List.getD_eq_getElem?_getD, List.getElem?_eq_none (by omega)]
       exact hd
   · rw [h1, map_range f d xs, h2]
theorem shp_ints {P : Program} {t e : TypeId} (ht : P.underlying t = some (.slice e)) (he : P.underlying e = some (.int .i64)) {a : AV} (h : Shp P 8 t [a]) : ∃ (n : Nat) (c : Nat -> Int), n <= maxLen /\ (∀ k, (Lit.int .i64 (c k)).wf = true) /\ Arr (fun k => .int .i64 (c k)) n a := by
 obtain ⟨n, c, h1, h3, h2⟩ := shp_arr (α := Int) (p := fun m => (Lit.int .i64 m).wf = true) (f := fun b => .int .i64 b) 0 ht (fun as_ hs => by
  unfold Shp at hs
  rw [he] at hs
  exact hs) (by decide) h
 exact ⟨n, c, h1, h3, h2⟩
end Go.Abs
namespace Go.Proofs.YtekbjlihciedjaaGreatDoor
open Go Go.Abs Go.Rp Go.RowKit
theorem rprog_pg : rprog = .agg pgL := by kernel_rfl
theorem rcopy_run : fcall knownP Tryz.prog (Gof tab) 100000 300 55 [rprog] FH.empty (litK rprog) = true := by kernel_rfl
theorem rcopy (H : AHeap) : Does Tryz.prog (Gof tab) 55 [rprog] H fun r h => r = rprog /\ h = H :=
 lit_does mixed5 plain5 za2 zaD (by kernel_rfl) (by kernel_rfl) rcopy_run H
theorem pgOk : PgOk (Gof tab) pgL := by
 refine ⟨by kernel_rfl, fun x hx => ?_, fun x hx => ?_, fun H => ?_, fun H => ?_, by kernel_rfl, by kernel_rfl⟩
 · have : pgL.all (fun x => x.scalar) = true := by kernel_rfl
   rw [List.all_eq_true] at this; exact this x hx
 · unfold pgL at hx
   simp only [List.mem_cons, List.not_mem_nil, or_false] at hx
   rcases hx with rfl | rfl | rfl | rfl | rfl | rfl <;> rfl
 · have := rvalid H
   rw [rprog_pg] at this; exact this
 · have := rcopy H
   rw [rprog_pg] at this; exact this
theorem rcounter_run : fcall knownP Tryz.prog (Gof tab) 100000 300 12 [] FH.empty (litK rtext) = true := by kernel_rfl
theorem rcounter (H : AHeap) : Does Tryz.prog (Gof tab) 12 [] H fun r h => r = rtext /\ h = H :=
 lit_does mixed5 plain5 za2 zaD (by kernel_rfl) (by kernel_rfl) rcounter_run H
theorem rprogram_run : fcall knownR1 Tryz.prog (Gof tab) 100000 300 11 [rtext] FH.empty (litK rprog) = true := by kernel_rfl
theorem rprogram (H : AHeap) : Does Tryz.prog (Gof tab) 11 [rtext] H fun r h => r = .agg pgL /\ h = H := by
 rw [<- rprog_pg]
 exact lit_does mixed5 plain5 knownR1_good zaD (by kernel_rfl) (by kernel_rfl) rprogram_run H
structure DkS (d : Dk) : Prop where
 ok : dkOk d
 on : d.off = false
 fuse : d.fuse = 0
 a : d.f0.now.length <= 300
 b : d.f1.now.length <= 300
 c : d.f2.now.length <= 300
noncomputable def knownO : Ov := ovAdd 55 (litOv [([rprog], rprog)]) knownR4
theorem knownO_good : OvGoodK Tryz.prog (Gof tab) knownO := ovAdd_good (litOv_good fun e he H => by
 simp only [List.mem_cons, List.not_mem_nil, or_false] at he
 rcases he with rfl
 · exact rcopy H) knownR4_good
def disk0 : List AV := [.nilsl, .nilsl, .bool false, .nilsl, .nilsl, .bool false, .nilsl, .nilsl, .bool false, .bool false, .bool false, .int .i64 0, .int .i64 1]
def digO : List AV := bsV [184, 26, 149, 68, 188, 21, 57, 71, 25, 14, 101, 74, 115, 214, 205, 127, 149, 1, 45, 225, 186, 36, 148, 50, 36, 235, 227, 56, 129, 42, 80, 22]
def objsO : List AObj := [.cells [.ptr 22 0, .ptr 0 0, .ptr 9 0, .ptr 7 0, .sl 19 0 1 1 1 true, .int .u64 0, .int .i64 0, .int .i64 0, .int .i64 0, .nilsl, .nilsl, .sl 38 0 32 1 1 false, .int .i64 1, .bool false],
 .cells [.int .i64 0, .int .i64 1, .int .u64 0, .int .u64 0, .nilsl, .int .i64 0, .bool false, .int .i64 0, .map 23, .map 24, .nilsl], .map [], .map [], .cells (pgL ++ [.sl 8 0 1 4 4 false, .int .i64 0]), .cells (ints (memI 0 0 false false)),
 .cells [.ptr 0 0, .nilsl, .int .i64 0, .int .i64 1, .bool false], .cells [.int .i64 2], .cells digO, .cells disk0]
theorem open_raw (Q : AV -> List (Option AObj) -> Bool) : heapK [.cells disk0] FH.empty (fun H => fcall knownO Tryz.prog (Gof tab) 100000 300 10 [.int .i64 0, .int .i64 1, rprog, .ptr 0 0] H fun v H' => Q v ([20, 22, 23, 24, 7, 8, 9, 19, 38, 0].map H'.abs.get)) = Q (.tuple [.ptr 20 0, .int .i64 0]) (objsO.map some) := by kernel_rfl
theorem disk0_at : DkC disk0 Dk.new := ⟨.nilsl, .nilsl, .nilsl, .nilsl, .nilsl, .nilsl, rfl, ⟨.nil, .nil⟩, ⟨.nil, .nil⟩, ⟨.nil, .nil⟩⟩
theorem does_after {P : Program} {G : Nat -> Option AV} {f : FuncId} {args : List AV} {H : AHeap} {R : AV -> AHeap -> Prop} (h : Does P G f args H R) : Does P G f args H fun r h => R r h /\ h.Wf :=
 ⟨fun E w vs hR hG hv => (h.run E w vs hR hG hv).mono fun v w' ⟨r, H1, E1, g1, g2, g3, g4⟩ => ⟨r, H1, E1, ⟨g1, g4.wf⟩, g2, g3, g4⟩⟩
theorem open_fresh {H : AHeap} {k : Nat} (hk : H.get k = some (.cells disk0)) :
  Does Tryz.prog (Gof tab) 10 [.int .i64 0, .int .i64 1, .agg pgL, .ptr k 0] H fun x h => ∃ r, x = .tuple [.ptr r 0, .int .i64 0] /\ H.next <= r /\ AlAt h (fun j => j = k \/ H.next <= j) r k 1 [] /\ ∀ j y, j ≠ k -> H.get j = some y -> h.get j = some y := by
 refine Does.wfs fun hw _ => ?_
 have hkn := zaa hw hk
 have hpt : IsPart (AHeap.ofList [.cells disk0]) (fun _ => k) H := part_one hk (by kernel_rfl)
 have hd := part_new (G := Gof tab) mixed5 plain5 knownO_good zaD (by kernel_rfl) (by kernel_rfl) (by rfl) open_raw hpt
 have ra : AV.rens (fun _ => k) [.int .i64 0, .int .i64 1, rprog, .ptr 0 0] = [.int .i64 0, .int .i64 1, .agg pgL, .ptr k 0] := by rw [rprog_pg]; rfl
 rw [ra] at hd
 have rn : ∀ j, 1 <= j -> zas (fun _ => k) 1 H.next j = H.next + (j - 1) := fun j hj => by unfold zas; rw [if_neg (by omega)]
 have r0 : zas (fun _ => k) 1 H.next 0 = k := by unfold zas; rw [if_pos (by omega)]
 have hd1 : Does Tryz.prog (Gof tab) 10 [.int .i64 0, .int .i64 1, .agg pgL, .ptr k 0] H fun x h => x = .tuple [.ptr (H.next + 19) 0, .int .i64 0] /\ h.get (H.next + 19) = some (.cells (rpV (H.next + 21) (.ptr k 0) (.ptr (H.next + 8) 0) (H.next + 6) (H.next + 18) 1 true (.int .u64 0) (.int .i64 0) (.int .i64 0) 0 .nilsl .nilsl (.sl (H.next + 37) 0 32 1 1 false) (.int .i64 1) (.bool false))) /\
   h.get (H.next + 21) = some (.cells (core0 .nilsl (H.next + 22) (H.next + 23))) /\ h.get (H.next + 22) = some (.map []) /\ h.get (H.next + 23) = some (.map []) /\ h.get (H.next + 6) = some (.cells (pgL ++ [.sl (H.next + 7) 0 1 4 4 false, .int .i64 0])) /\ h.get (H.next + 7) = some (.cells (ints (memI 0 0 false false))) /\
   h.get (H.next + 8) = some (.cells [.ptr k 0, .nilsl, .int .i64 0, .int .i64 1, .bool false]) /\ h.get (H.next + 18) = some (.cells [.int .i64 2]) /\ h.get (H.next + 37) = some (.cells digO) /\ h.get k = some (.cells disk0) /\ ∀ j y, j ≠ k -> H.get j = some y -> h.get j = some y := by
  refine hd.mono ?_
  rintro x h ⟨rfl, f1, f2, f3⟩
  have l1 : ([.cells disk0] : List AObj).length = 1 := rfl
  rw [l1] at f1
  have g0 := f1 0 (by decide)
  have g1 := f1 1 (by decide)
  have g2 : h.get (zas (fun _ => k) 1 H.next 23) = some (.map []) := f1 2 (by decide)
  have g3 : h.get (zas (fun _ => k) 1 H.next 24) = some (.map []) := f1 3 (by decide)
  have g4 : h.get (zas (fun _ => k) 1 H.next 7) = some (.cells (pgL ++ [.sl (zas (fun _ => k) 1 H.next 8) 0 1 4 4 false, .int .i64 0])) := f1 4 (by decide)
  have g5 : h.get (zas (fun _ => k) 1 H.next 8) = some (.cells (ints (memI 0 0 false false))) := f1 5 (by decide)
  have g6 := f1 6 (by decide)
  have g7 : h.get (zas (fun _ => k) 1 H.next 19) = some (.cells [.int .i64 2]) := f1 7 (by decide)
  have g8 : h.get (zas (fun _ => k) 1 H.next 38) = some (.cells digO) := f1 8 (by decide)
  have g9 : h.get (zas (fun _ => k) 1 H.next 0) = some (.cells disk0) := f1 9 (by decide)
  simp [objsO, AObj.ren, AV.rens, AV.ren, rn, r0] at g0 g1 g6
  simp only [rn _ (show 1 <= 23 by omega), rn _ (show 1 <= 24 by omega), rn _ (show 1 <= 7 by omega), rn _ (show 1 <= 8 by omega), rn _ (show 1 <= 19 by omega), rn _ (show 1 <= 38 by omega), r0] at g2 g3 g4 g5 g7 g8 g9
  refine ⟨?_, by simpa [rpV] using g0, by simpa [core0] using g1, g2, g3, g4, g5, g6, g7, g8, g9, fun j y hj hy => f2 j y (fun i hi => Ne.symm hj) hy⟩
  simp [AV.ren, AV.rens, rn]
 refine (does_after hd1).mono ?_
 rintro x h ⟨⟨rfl, g0, g1, g2, g3, g4, g5, g6, g7, g8, g9, g10⟩, hwf⟩
 refine ⟨H.next + 19, rfl, by omega, ⟨H.next + 21, H.next + 22, H.next + 23, H.next + 6, H.next + 7, H.next + 18, 1, true, false, H.next + 8, .nilsl, .nilsl, .sl (H.next + 37) 0 32 1 1 false, fun _ => False, fun x => x = H.next + 37, by simpa [recA, texts, lens] using g0, ?_, ?_, g7, ?_, fun x hx => ?_, fun x hx => hx.elim, fun x hx => ?_, fun v hv => by simp at hv⟩, g10⟩
 · rw [if_pos (by simp)]
   exact ⟨⟨g1, g2, g3, by omega⟩, rfl⟩
 · exact ⟨.nilsl, 0, Dk.new, ⟨g6, .inl ⟨rfl, rfl⟩⟩, ⟨disk0, disk0_at, g9⟩, ⟨by unfold dkOk Dk.new Fl.new; simp, rfl, rfl, rfl, rfl, rfl⟩, rfl, fun i op e => (by cases e), fun _ => rfl⟩
 · have hdl : digO.length = 32 := by simp [digO, bsV]
   exact ⟨0, 0, false, false, [], digO, fun _ => False, fun x => x = H.next + 37, ⟨g4, g5, by decide, rfl, by omega, by decide, fun v hv => by simp [memI] at hv; subst hv; unfold i64; omega⟩, .inl ⟨rfl, rfl, rfl⟩, .inr ⟨H.next + 37, 0, 1, false, [], [], rfl, rfl, by simpa using g8, rfl, by rw [hdl]; rfl, rfl, Nat.le_refl _⟩, fun x hx => hx.elim, fun x hx => hx, fun x hx => hx.elim, by omega, by omega⟩
 · rcases hx with rfl | rfl | rfl | rfl | rfl | rfl | rfl | rfl | rfl
   · exact ⟨.inr (by omega), zaa hwf g0, fun h => h, by omega⟩
   · exact ⟨.inr (by omega), zaa hwf g1, fun h => h, by omega⟩
   · exact ⟨.inr (by omega), zaa hwf g2, fun h => h, by omega⟩
   · exact ⟨.inr (by omega), zaa hwf g3, fun h => h, by omega⟩
   · exact ⟨.inr (by omega), zaa hwf g6, fun h => h, by omega⟩
   · exact ⟨.inl rfl, zaa hwf g9, fun h => h, by omega⟩
   · exact ⟨.inr (by omega), zaa hwf g4, fun h => h, by omega⟩
   · exact ⟨.inr (by omega), zaa hwf g5, fun h => h, by omega⟩
   · exact ⟨.inr (by omega), zaa hwf g7, fun h => h, by omega⟩
 · exact ⟨.inr (by omega), by rw [hx]; exact zaa hwf g8⟩
end Go.Proofs.YtekbjlihciedjaaGreatDoor
namespace Go.Proofs.YtekbjlihciedjaaGreatDoor
open Go Go.Abs Go.Rp
variable {G : Nat -> Option AV}
def Dk.power (d : Dk) : Dk := { d with off := false, fuse := 0, lives := d.lives + 1 }
theorem on_does {H : AHeap} {k : Nat} {d : Dk} (hk : DkAt H k d) (hd : dkOk d) (h1 : d.off = true) (h2 : d.crashed = true) (hl : d.lives <= 1000) : Does Tryz.prog G 17 [.ptr k 0] H fun r h => r = .tuple [] /\ DkTo H h k (Dk.power d) := by
 obtain ⟨cs, ⟨n0, s0, n1, s1, n2, s2, rfl, f0, f1, f2⟩, hg⟩ := hk
 have hl0 : 0 <= d.lives := hd.2.2.1
 have wl : IntKind.i64.wrap (d.lives + 1) = d.lives + 1 := IntWalk.i64_in _ (by omega)
 refine zad Tryz.call17 Tryz.func17 rfl (by simp [Tryz.f17]) ?_
 simp [hg, dkV, h1, h2, wl]
 exact ⟨_, ⟨n0, s0, n1, s1, n2, s2, rfl, f0, f1, f2⟩, by simp [dkV, Dk.power, h2]⟩
theorem rpTick_off {H : AHeap} {r k : Nat} {d : Dk} (hk : DkAt H k d) {c0 c2 c3 c4 c5 c6 c7 c8 c9 c10 c11 : AV} {lives : Int} {dn : Bool} (hr : H.get r = some (.cells [c0, .ptr k 0, c2, c3, c4, c5, c6, c7, c8, c9, c10, c11, .int .i64 lives, .bool dn])) (ho : (dn || d.off || (d.lives != lives)) = true) :
  Does Tryz.prog G 13 [.ptr r 0] H fun x h => x = .tuple [.nilsl, .int .i64 4] /\ h = H.set r (.cells [c0, .ptr k 0, c2, c3, c4, c5, c6, c7, c8, c9, c10, c11, .int .i64 lives, .bool true]) := by
 refine zad Tryz.call13 Tryz.func13 rfl (by simp [Tryz.f13]) ?_
 simp
 refine zab (rpOff_does hk hr) ?_
 rintro x h ⟨rfl, hx⟩
 rw [ho] at hx ⊢
 simp [hx]
theorem rpSave_off {H : AHeap} {r k : Nat} {d : Dk} (hk : DkAt H k d) {c0 c2 c3 c4 c5 c6 c7 c8 c9 c10 c11 : AV} {lives : Int} {dn : Bool} (hr : H.get r = some (.cells [c0, .ptr k 0, c2, c3, c4, c5, c6, c7, c8, c9, c10, c11, .int .i64 lives, .bool dn])) (ho : (dn || d.off || (d.lives != lives)) = true) :
  Does Tryz.prog G 18 [.ptr r 0] H fun x h => x = .int .i64 4 /\ h = H.set r (.cells [c0, .ptr k 0, c2, c3, c4, c5, c6, c7, c8, c9, c10, c11, .int .i64 lives, .bool true]) := by
 refine zad Tryz.call18 Tryz.func18 rfl (by simp [Tryz.f18]) ?_
 simp
 refine zab (rpOff_does hk hr) ?_
 rintro x h ⟨rfl, hx⟩
 rw [ho] at hx ⊢
 simp [hx]
theorem rpSubmit_off {H : AHeap} {r k pI cap : Nat} {opI : Bool} {d : Dk} (hk : DkAt H k d) {c0 c2 c3 c5 c6 c7 c8 c9 c10 c11 : AV} {lives : Int} {dn : Bool} (hr : H.get r = some (.cells [c0, .ptr k 0, c2, c3, .sl pI 0 1 1 cap opI, c5, c6, c7, c8, c9, c10, c11, .int .i64 lives, .bool dn])) (hp : H.get pI = some (.cells [.int .i64 2])) (ho : (dn || d.off || (d.lives != lives)) = true) {id : Nat} (hid : 0 < id) {x : Int} {ts : List AV} :
  Does Tryz.prog G 14 [.ptr r 0, .int .u64 id, .vsl (ints [x] ++ ts) 1] H fun y h => y = .tuple [.nilsl, .int .i64 4] /\ h = H.set r (.cells [c0, .ptr k 0, c2, c3, .sl pI 0 1 1 cap opI, c5, c6, c7, c8, c9, c10, c11, .int .i64 lives, .bool true]) := by
 have hid' : ¬ (id : Int) = 0 := by omega
 have hid'' : ¬ id = 0 := by omega
 refine zad Tryz.call14 Tryz.func14 rfl (by simp [Tryz.f14]) ?_
 simp [hid', hid'']
 refine zab (fits_does hr hp (l := [x]) (ts := ts) (.inr rfl) (by simp)) ?_
 rintro y h ⟨rfl, hh⟩
 subst hh
 simp
 refine zab (rpOff_does hk hr) ?_
 rintro y h' ⟨rfl, hx⟩
 rw [ho] at hx ⊢
 simp [hx]
theorem inputs_does {l : List En} {v : AV} (hv : EnF v l) (hl : l.length <= 1000000) (hr : ∀ e ∈ l, e.l.length <= 1000000) {H : AHeap} {r : Nat} {c0 c1 c2 c3 c4 c5 c6 c7 c8 c10 c11 c12 c13 : AV} (hr0 : H.get r = some (.cells [c0, c1, c2, c3, c4, c5, c6, c7, c8, v, c10, c11, c12, c13])) :
  Does Tryz.prog G 19 [.ptr r 0] H fun r h => CopG H h l r /\ ∀ j x, H.get j = some x -> h.get j = some x := by
 refine Does.wf Tryz.call19 fun hw _ => ?_
 refine zad Tryz.call19 Tryz.func19 rfl (by simp [Tryz.f19]) ?_
 have hal : alen Tryz.prog 48 v = some (.int .i64 l.length) := by rcases hv with ⟨rfl, rfl⟩ | ⟨ts, rfl⟩ <;> simp [alen]
 have vs := hv.sc
 have vc := hv.cells
 simp [hr0, vs, vc, hal, -alen]
 refine zam (fun k T' H' => ∃ i w, i + k = l.length /\ (∀ j x, H.get j = some x -> H'.get j = some x) /\ H.next <= H'.next /\ CopG H H' (l.take i) w /\ T' 3 = w /\ T' 9 = v /\ T' 10 = .int .i64 l.length /\ T' 11 = .int .i64 i) l.length ?_ ?_
 · exact ⟨0, .nilsl, by simp, fun j x hj => hj, Nat.le_refl _, ⟨.inl ⟨by simp, by simp [entsC], rfl⟩, fun _ => rfl⟩, by simp, by simp, by simp, by simp⟩
 rintro k T H1 ⟨i, w, hik, hk, hnx, hg, t3, t9_, t10_, t11_⟩ hw1 _
 by_cases hi : i < l.length
 · have hii : (i : Int) < l.length := by omega
   obtain ⟨C, hvC, hCl, hat⟩ := hv.cs (by omega)
   have g1 : l[i]? = some l[i] := List.getElem?_eq_getElem hi
   have hat := hat i _ g1
   have hre := hr _ (List.getElem_mem hi)
   have hsn : l.take (i + 1) = l.take i ++ [l[i]] := by rw [List.take_add_one, g1]; rfl
   have hln : (l.take i).length = i := by rw [List.length_take]; omega
   generalize l[i] = x at *
   have h3 : 3 <= C.length - i * 3 := by omega
   have wr : IntKind.i64.wrap ((i : Int) + 1) = ((i + 1 : Nat) : Int) := by rw [IntWalk.i64_in _ (by omega)]; omega
   rw [hvC] at t9_
   have rx := RowA.rowV x.row
   simp [t3, t9_, t10_, t11_, hi, hii, h3, hat, rx.sc, rx.cells]
   refine zab (copyEn_does (e := x) rx (by omega) _) ?_
   rintro r h ⟨rfl, rfl⟩
   have g2 : Gr ((H1.push (.cells [.int .u64 x.id, .int .u64 x.view, rowV x.row])).push (.cells [.int .u64 x.id, .int .u64 x.view, rowV x.row])) 3 i (entsC (l.take i)) w (fun j => H.next <= j /\ j < H1.next) := by
    rcases hg.1 with ⟨a1, a2, a3⟩ | ⟨p, o, cap, op, pre, junk, a1, a2, a3, a4, a5, a6, a7⟩
    · exact .inl ⟨by omega, a2, a3⟩
    · have pn := zaa hw1 a3
      have q1 : p ≠ H1.next := by omega
      have q2 : p ≠ H1.next + 1 := by omega
      exact .inr ⟨p, o, cap, op, pre, junk, by rw [a1, hln], ⟨a2, pn⟩, by simp [q1, q2, a3], a4, by rw [a5, hln], by rw [<- a6, hln], by rw [<- hln]; exact a7⟩
   obtain ⟨v', eff, f1, f2, f3, f4⟩ := g2.app (elemEn) (m := 1) (x := .sl (H1.next + 1) 0 3 1 1 false) (news := [.int .u64 x.id, .int .u64 x.view, rowV x.row]) (fun _ _ e => by cases e) rfl (by simp [zal]) (by simp [rx.sc]) rfl (by omega) (by omega) (by omega) (by omega) (nx := H1.next + 1 + 1) rfl
   simp [enV, t3, t9_, t10_, t11_, rx.sc, rx.cells, -zan]
   rw [f1]
   generalize hH2 : ((H1.push (.cells [.int .u64 x.id, .int .u64 x.view, rowV x.row])).push (.cells [.int .u64 x.id, .int .u64 x.view, rowV x.row])) = H2 at *
   have nx2 : H2.next = H1.next + 1 + 1 := by rw [<- hH2]; rfl
   simp [t3, t9_, t10_, t11_]
   refine ⟨k - 1, by omega, i + 1, by omega, fun j y hj => ?_, by omega, v', ⟨?_, ?_⟩, rfl, hvC.symm, wr⟩
   · have j1 := zaa hw hj
     rw [f3 j (by omega) (by omega), <- hH2]
     have e0 : j ≠ H1.next := by omega
     have e1 : j ≠ H1.next + 1 := by omega
     simp [e0, e1, hk j y hj]
   · rw [hsn, zaM, List.length_append, hln]
     exact (f2.mono fun j hj => by omega)
   · intro e
     rw [hsn] at e
     simp at e
 · obtain rfl : i = l.length := by omega
   rw [List.take_length] at hg
   simp [t3, t10_, t11_]
   exact ⟨hg, hk⟩
theorem frames_ge : ∀ (l : List Bs) (n : Nat), l.length <= (zaR n l).length
 | [], _ => by simp [zaR]
 | b :: l, n => by
   have h1 := frames_ge l (n + 1)
   have h2 := frame_len n b
   simp only [zaR, List.length_append, List.length_cons]
   omega
theorem slots_none : slots (ckLast [] []) = some none := by
 simp [ckLast, za8, Rp.take, slots]
theorem rpo_again {d : Dk} {xs : List Int} (hx : ∀ v ∈ xs, i64 v) (hl : xs.length <= 40) (h0 : d.f0.now = zaR 0 (texts 0 (recA xs))) (h1 : d.f1.now = []) (h2 : d.f2.now = []) :
  ∃ c last, rpo 0 1 d = some (c, last, 0) /\ c.agreed = xs.length /\ c.list.length = xs.length := by
 have rl := recA_le (xs := xs) (by omega) hx
 have rn := recA_len xs
 have tl : (texts 0 (recA xs)).length = (recA xs).length := texts_len _ _
 have tb : ∀ b ∈ texts 0 (recA xs), b.length <= 60000 := fun b hb => by
  have h3 := (texts_le (R := recA xs) (i := 0) (by omega) rl).1
  have h4 := mem_lens hb
  omega
 have ha : all (d.f0.now.length + 1) 0 d.f0.now = (texts 0 (recA xs), (zaR 0 (texts 0 (recA xs))).length) := by
  rw [h0]
  refine all_frames _ 0 _ (by omega) tb ?_
  have := frames_ge (texts 0 (recA xs)) 0
  omega
 have hrec : recs 0 (texts 0 (recA xs)) = some (recA xs, 0 + (recA xs).length) := recs_texts _ 0 (by omega) fun b hb => by have := rl b hb; omega
 have hop : ∃ v la, zaA 0 1 ⟨0, 0, [], 0⟩ (recA xs) = some ⟨v, la, ents 1 xs, 0⟩ := by
  unfold recA
  split
  · rename_i e
    subst e
    exact ⟨0, 0, rfl⟩
  · exact ⟨_, _, opened_recsOf (by omega) hx⟩
 obtain ⟨v, la, hop⟩ := hop
 refine ⟨⟨v, la, ents 1 xs, (ents 1 xs).length⟩, (recA xs).length, ?_, ents_len _ _, ents_len _ _⟩
 unfold rpo
 rw [h1, h2, slots_none, ha]
 simp only [rrecs, hrec, Option.map_some, List.nil_append, hop, if_true, Nat.zero_add]
end Go.Proofs.YtekbjlihciedjaaGreatDoor
namespace Go.Proofs.YtekbjlihciedjaaGreatDoor
open Go Go.Abs Go.Rp Go.RowKit
theorem new0_does {G : Nat -> Option AV} (H : AHeap) : Does Tryz.prog G 7 [] H fun r h => r = .ptr H.next 0 /\ h = H.push (.cells disk0) := by
 refine zad Tryz.call7 Tryz.func7 rfl (by simp [Tryz.f7]) ?_
 simp [disk0]
theorem pg_form : ∃ p1 p2 p3 p4 p5 : AV, pgL = [.vsl [.int .i64 2] 1, p1, p2, p3, p4, p5] /\ (p1.scalar = true /\ p2.scalar = true /\ p3.scalar = true /\ p4.scalar = true /\ p5.scalar = true) /\ p1.cells = [p1] /\ p2.cells = [p2] /\ p3.cells = [p3] /\ p4.cells = [p4] /\ p5.cells = [p5] := by
 unfold pgL
 exact ⟨_, _, _, _, _, rfl, ⟨rfl, rfl, rfl, rfl, rfl⟩, rfl, rfl, rfl, rfl, rfl⟩
theorem dkOk_power {d : Dk} (h : dkOk d) (hl : d.lives <= 1000) : dkOk (Dk.power d.crash) := by
 obtain ⟨h1, h2, h3, h4, h5, h6, h7, h8, h9, h10⟩ := h
 simp only [dkOk, Dk.power, Dk.crash, Fl.crash]
 omega
theorem lives_law (H : AHeap) (a0 : AV) (s0 : Shp Tryz.prog 8 33 [a0]) :
  Does Tryz.prog (Gof tab) 4 [a0] H fun r _ => r = .bool true := by
 refine Does.wf Tryz.call4 fun hw _ => ?_
 obtain ⟨n, c, hn, hwf, harr⟩ := shp_ints (e := 2) (by simp) (by simp) s0
 obtain ⟨xs, hxs⟩ : ∃ xs : List Int, xs = (List.range n).map c := ⟨_, rfl⟩
 have hxl : xs.length = n := by rw [hxs]; simp
 have hxi : ∀ v ∈ xs, i64 v := fun v hv => by
  rw [hxs] at hv
  obtain ⟨j, _, rfl⟩ := List.mem_map.1 hv
  have := hwf j
  simp [Lit.wf] at this
  have e1 : IntKind.i64.min = -9223372036854775808 := rfl
  have e2 : IntKind.i64.max = 9223372036854775807 := rfl
  unfold i64
  omega
 have hav : (n = 0 /\ a0 = .nilsl) \/ a0 = .vsl (ints xs) n := by
  rcases harr with h | h
  · exact .inl h
  · refine .inr ?_
    rw [h, hxs]
    simp [ints, Function.comp]
 have al : alen Tryz.prog 33 a0 = some (.int .i64 n) := by rcases hav with ⟨rfl, rfl⟩ | rfl <;> simp [alen]
 have as1 : a0.scalar = true := by rcases hav with ⟨_, rfl⟩ | rfl <;> rfl
 have as2 : a0.cells = [a0] := by rcases hav with ⟨_, rfl⟩ | rfl <;> rfl
 obtain ⟨p1, p2, p3, p4, p5, hpg, ⟨q1, q2, q3, q4, q5⟩, c1, c2, c3, c4, c5⟩ := pg_form
 refine zad Tryz.call4 Tryz.func4 rfl (by simp [Tryz.f4]) ?_
 simp
 refine zab (rawake H) ?_
 rintro x h ⟨rfl, hh⟩
 subst hh
 by_cases c0 : 20 < n
 · have c0' : (20 : Int) < n := by omega
   simp [al, c0, c0', -alen]
 have c0' : ¬ (20 : Int) < n := by omega
 simp [al, c0, c0', -alen]
 refine zac (new0_does h) ?_
 rintro x g1 ⟨rfl, hg1⟩ hw1 _
 have hk1 : g1.get h.next = some (.cells disk0) := by rw [hg1]; simp
 have n1 : g1.next = h.next + 1 := by rw [hg1]; rfl
 clear hg1
 generalize h.next = k at *
 simp
 refine zab (rcounter _) ?_
 rintro x g2 ⟨rfl, hh⟩
 subst hh
 simp
 refine zab (rprogram _) ?_
 rintro x g3 ⟨rfl, hh⟩
 subst hh
 rw [hpg]
 simp [q1, q2, q3, q4, q5, c1, c2, c3, c4, c5]
 rw [<- hpg]
 obtain ⟨pc, hpc⟩ : ∃ pc, pc = g3.next := ⟨_, rfl⟩
 obtain ⟨g4, hg4⟩ : ∃ g4, g4 = g3.push (.cells pgL) := ⟨_, rfl⟩
 rw [<- hg4]
 have hkn := zaa hw1 hk1
 have hk4 : g4.get k = some (.cells disk0) := by
  have : k ≠ g3.next := by omega
  rw [hg4]; simp [this, hk1]
 have hp4 : g4.get pc = some (.cells pgL) := by rw [hg4, hpc]; simp
 have n4 : g4.next = pc + 1 := by rw [hg4, hpc]; rfl
 clear hg4
 refine zac (open_fresh hk4) ?_
 rintro x g5 ⟨r, rfl, hr, hA, hkeep⟩ hw5 _
 have hp5 := hkeep _ _ (by omega) hp4
 simp
 refine zam (fun m T' H' => ∃ i O, i + m = n /\ AlAt H' O r k 1 (xs.take i) /\ ¬ O pc /\ H'.get pc = some (.cells pgL) /\ T' 0 = a0 /\ T' 3 = .ptr k 0 /\ T' 4 = .ptr pc 0 /\ T' 5 = .ptr r 0 /\ T' 7 = .int .i64 i) n ?_ ?_
 · refine ⟨0, _, by omega, by simpa using hA, by omega, hp5, ?_, ?_, ?_, ?_, ?_⟩ <;> simp [hpc]
 clear hA hkeep hp5 hw5 hk1 hk4 hw1 hp4 n4 hpc n1 hkn hr
 rintro m T H1 ⟨i, O, him, hA, hO, hpc, t0, t3, t4, t5, t7⟩ hw1 _
 have hpn := zaa hw1 hpc
 by_cases hi : i < n
 · have hii : (i : Int) < n := by omega
   have hav : a0 = .vsl (ints xs) n := by
    rcases hav with ⟨h, _⟩ | h
    · omega
    · exact h
   obtain ⟨x, hx⟩ : ∃ x, xs[i]? = some x := ⟨_, List.getElem?_eq_getElem (by omega)⟩
   have hxm := List.mem_of_getElem? hx
   have hix : (ints xs)[i]? = some (.int .i64 x) := by simp [ints, hx]
   have hil : i < (ints xs).length := by rw [za6]; omega
   have hgx : (ints xs)[i]'hil = .int .i64 x := (List.getElem?_eq_some_iff.1 hix).2
   have htk : xs.take (i + 1) = xs.take i ++ [x] := by rw [List.take_add_one, hx]; rfl
   have hti : (xs.take i).length = i := by rw [List.length_take]; omega
   have w1 : IntKind.i64.wrap ((i : Int) + 1) = ((i + 1 : Nat) : Int) := by rw [IntWalk.i64_in _ (by omega)]; omega
   have w2 : IntKind.u64.wrap ((i + 1 : Nat) : Int) = ((i + 1 : Nat) : Int) := IntWalk.u64_in _ (by omega)
   have w3 : IntKind.u64.wrap ((i : Int) + 1) = (i : Int) + 1 := by rw [IntWalk.u64_in _ (by omega)]
   have w4 : IntKind.i64.wrap ((i : Int) + 1) = (i : Int) + 1 := by rw [w1]; omega
   rw [hav] at t0
   generalize hIX : ints xs = IX at *
   simp [t0, t3, t4, t5, t7, hi, hii, hil, hgx, hix, w3, w4]
   have hrn : r < H1.next := by
    obtain ⟨ci, g, hh, m', q', pI, cap, opI, op, gl, ag, ov, dv, b, B, h1, _⟩ := hA
    exact zaa hw1 h1
   have old : ∀ j y, H1.get j = some y -> ((H1.push (.cells [.int .i64 x])).frz H1.next [.int .i64 x]).get j = some y := fun j y hj => frz_old1 hw1 (Nat.le_refl _) hj (by
    have := zaa hw1 hj
    have : j ≠ H1.next := by omega
    simp [this, hj])
   have hA2 : AlAt ((H1.push (.cells [.int .i64 x])).frz H1.next [.int .i64 x]) O r k 1 (xs.take i) := hA.keep (fun j y _ hj => old j y hj) (by simp [AHeap.frz])
   have hsub := rpSubmit_one (G := Gof tab) zaD hA2 (hxi x hxm) (by omega) (ts := [])
   rw [hti] at hsub
   have hsub2 := Does.lend (H := H1.push (.cells [.int .i64 x])) (i := H1.next) (cs := [.int .i64 x]) (args := [.ptr r 0, .int .u64 ((i : Int) + 1), .sl H1.next 0 1 1 1 false]) (by simp) (by
    have e : List.map (AV.frz H1.next [.int .i64 x]) [.ptr r 0, .int .u64 ((i : Int) + 1), .sl H1.next 0 1 1 1 false] = [.ptr r 0, .int .u64 ((i + 1 : Nat) : Int), .vsl (ints [x] ++ []) 1] := by
     have : r ≠ H1.next := by omega
     simp [AV.frz, this, ints]
    rw [e]; exact hsub)
   refine zab hsub2 ?_
   rintro y h ⟨rfl, hA3, hk3⟩
   simp [t0, t3, t4, t5, t7, w4]
   refine ⟨m - 1, by omega, i + 1, by omega, _, by rw [htk]; exact hA3, ?_, hk3 _ _ hO (old _ _ hpc), hav.symm, by omega⟩
   rintro (h' | h')
   · exact hO h'
   · simp [AHeap.frz] at h'
     omega
 · obtain rfl : i = n := by omega
   simp [t0, t3, t4, t5, t7, al, -alen]
   have hti : xs.take i = xs := List.take_of_length_le (by omega)
   rw [hti] at hA
   obtain ⟨ci, g, hh, mm, q, pI, cap, opI, op, gl, ag, ov, dv, b, B, hr, hc, ⟨lv, sy, d, l1, l2, l3, l4, l5, l6⟩, hp, hS, hf, hb, hB, _⟩ := hA
   have l6 := l6 rfl
   have ne : ∀ {i j : Nat} {a b : AObj}, H1.get i = some a -> H1.get j = some b -> a ≠ b -> i ≠ j := fun {i j a b} ha hb hab e => by
    rw [e, hb] at ha; exact hab (Option.some.inj ha).symm
   have len : ∀ {a b : List AV}, a.length ≠ b.length -> AObj.cells a ≠ AObj.cells b := fun {a b} hl e => hl (by cases e; rfl)
   have hrk : r ≠ k := by
    obtain ⟨cs0, ⟨z0, z1, z2, z3, z4, z5, rfl, _⟩, hk0⟩ := id l2
    exact ne hr hk0 (len (by simp [rpV, dkV]))
   have hpk : pI ≠ k := by
    obtain ⟨cs0, ⟨z0, z1, z2, z3, z4, z5, rfl, _⟩, hk0⟩ := id l2
    exact ne hp hk0 (len (by simp [dkV]))
   have hpr : pI ≠ r := ne hp hr (len (by simp [rpV]))
   have hpck : pc ≠ k := fun e => hO (by rw [e]; exact (hf k (by simp)).1)
   have hpcr : pc ≠ r := fun e => hO (by rw [e]; exact (hf r (by simp)).1)
   have pgl : pgL.length = 6 := by decide
   have hpcp : pc ≠ pI := ne hpc hp (len (by simp [pgl]))
   refine zac (crash_does l2 l3.ok) ?_
   rintro x H2 ht hw2 _
   have hr2 : H2.get r = _ := (ht.off hrk).trans hr
   have hp2 : H2.get pI = _ := (ht.off hpk).trans hp
   have hpc2 : H2.get pc = _ := (ht.off hpck).trans hpc
   have hok2 : dkOk d.crash := by
    obtain ⟨h1, h2, h3, h4, h5, h6, h7, h8, h9, h10⟩ := l3.ok
    simp only [dkOk, Dk.crash, Fl.crash]
    omega
   simp [t3, t5]
   refine zac (on_does ht.at hok2 rfl rfl (by show d.lives <= 1000; omega)) ?_
   rintro y H3 ⟨rfl, ht3⟩ hw3 _
   have hr3 := (ht3.off hrk).trans hr2
   have hp3 := (ht3.off hpk).trans hp2
   have hpc3 := (ht3.off hpck).trans hpc2
   have hk3 := ht3.at
   have hok3 := dkOk_power l3.ok (by omega)
   have hlv3 : (Dk.power d.crash).lives = 2 := by show d.lives + 1 = 2; omega
   have hon3 : (Dk.power d.crash).off = false := rfl
   have hfu3 : (Dk.power d.crash).fuse = 0 := rfl
   have h03 : (Dk.power d.crash).f0.now = zaR 0 (texts 0 (recA xs)) := by show d.f0.synced = _; rw [l6, l3.log]
   have h13 : (Dk.power d.crash).f1.now = [] := by show d.f1.synced = _; rw [l3.a]; rfl
   have h23 : (Dk.power d.crash).f2.now = [] := by show d.f2.synced = _; rw [l3.b]; rfl
   generalize Dk.power d.crash = d3 at *
   clear ht ht3 hr hp hpc hS hc l1 l2 hB hb
   simp [t3, t5]
   have old : ∀ j y, H3.get j = some y -> ((H3.push (.cells [.int .i64 1])).frz H3.next [.int .i64 1]).get j = some y := fun j y hj => frz_old1 hw3 (Nat.le_refl _) hj (by
    have := zaa hw3 hj
    have : j ≠ H3.next := by omega
    simp [this, hj])
   have hrn := zaa hw3 hr3
   have hrF := old _ _ hr3
   have hpF := old _ _ hp3
   have hcF := old _ _ hpc3
   have hkF : DkAt ((H3.push (.cells [.int .i64 1])).frz H3.next [.int .i64 1]) k d3 := by
    obtain ⟨cs, z1, z2⟩ := hk3
    exact ⟨cs, z1, old _ _ z2⟩
   generalize hFF : (H3.push (.cells [.int .i64 1])).frz H3.next [.int .i64 1] = F at *
   simp only [rpV] at hrF
   have ho1 : (false || d3.off || (d3.lives != 1)) = true := by rw [hon3, hlv3]; rfl
   have ho2 : (true || d3.off || (d3.lives != 1)) = true := by simp
   have hsub := rpSubmit_off (G := Gof tab) hkF hrF hpF ho1 (id := 99) (by decide) (x := 1) (ts := [])
   have hsub2 := Does.lend (H := H3.push (.cells [.int .i64 1])) (i := H3.next) (cs := [.int .i64 1]) (args := [.ptr r 0, .int .u64 99, .sl H3.next 0 1 1 1 false]) (by simp) (by
    have e : List.map (AV.frz H3.next [.int .i64 1]) [.ptr r 0, .int .u64 99, .sl H3.next 0 1 1 1 false] = [.ptr r 0, .int .u64 ((99 : Nat) : Int), .vsl (ints [1] ++ []) 1] := by
     have : r ≠ H3.next := by omega
     simp [AV.frz, this, ints]
    rw [e, hFF]; exact hsub)
   refine zab hsub2 ?_
   rintro y F1 ⟨rfl, hF1⟩
   have hr1 : F1.get r = some (.cells [.ptr ci 0, .ptr k 0, .ptr gl 0, .ptr mm 0, .sl pI 0 1 1 cap opI, .int .u64 (recA xs).length, .int .i64 (lens (texts 0 (recA xs))), .int .i64 0, .int .i64 xs.length, ag, ov, dv, .int .i64 1, .bool true]) := by rw [hF1]; simp
   have hc1 : F1.get pc = some (.cells pgL) := by rw [hF1]; simp [hpcr, hcF]
   have hk1 : DkAt F1 k d3 := by
    obtain ⟨cs, z1, z2⟩ := hkF
    exact ⟨cs, z1, by rw [hF1]; simp [hrk.symm, z2]⟩
   clear hF1
   simp [t3, t5]
   refine zab (rpTick_off hk1 hr1 ho2) ?_
   rintro y F2 ⟨rfl, hF2⟩
   have hr2' : F2.get r = some (.cells [.ptr ci 0, .ptr k 0, .ptr gl 0, .ptr mm 0, .sl pI 0 1 1 cap opI, .int .u64 (recA xs).length, .int .i64 (lens (texts 0 (recA xs))), .int .i64 0, .int .i64 xs.length, ag, ov, dv, .int .i64 1, .bool true]) := by rw [hF2]; simp
   have hc2 : F2.get pc = some (.cells pgL) := by rw [hF2]; simp [hpcr, hc1]
   have hk2 : DkAt F2 k d3 := by
    obtain ⟨cs, z1, z2⟩ := hk1
    exact ⟨cs, z1, by rw [hF2]; simp [hrk.symm, z2]⟩
   clear hF2
   simp [t3, t5]
   refine zab (rpSave_off hk2 hr2' ho2) ?_
   rintro y F3 ⟨rfl, hF3⟩
   have hc3 : F3.get pc = some (.cells pgL) := by rw [hF3]; simp [hpcr, hc2]
   have hk3 : DkAt F3 k d3 := by
    obtain ⟨cs, z1, z2⟩ := hk2
    exact ⟨cs, z1, by rw [hF3]; simp [hrk.symm, z2]⟩
   clear hF3
   rw [hpg] at hc3
   simp [t3, t4, t5, hc3]
   rw [<- hpg]
   refine zac (rpOpen_does zaD (me := 0) (n := 1) (by decide) (by decide) (by decide) hk3 hok3 hon3 hfu3 pgOk) ?_
   rintro y F4 hop hw4 _
   obtain ⟨cc, last, hrpo, hca, hcl⟩ := rpo_again hxi (by omega) h03 h13 h23
   obtain ⟨o1, o2, o3⟩ := rpo_ok hrpo hok3
   obtain ⟨li1, li2⟩ := listed_ok o1
   unfold OpenR at hop
   rw [hrpo] at hop
   simp only at hop
   obtain ⟨r2, ci2, g2, m2, q2, pI2, cap2, opI2, op2, ov2, dv2, gl2, lvl2, N2, rfl, hr4, _⟩ := hop
   simp only [rpV] at hr4
   have htl : (cc.list.take cc.agreed).length = i := by rw [List.length_take]; omega
   simp [t0, t3, t4, t5]
   refine zab (inputs_does (EnF.entsV (cc.list.take cc.agreed)) (by omega) (fun e he => li2 e (List.mem_of_mem_take he)) hr4) ?_
   rintro y F5 ⟨⟨hgr, _⟩, _⟩
   have hyl := hgr.alen (e := 62) (P := Tryz.prog) (t := 48) (by simp)
   rw [htl] at hyl
   simp [t0, al, hyl, -alen]
end Go.Proofs.YtekbjlihciedjaaGreatDoor
