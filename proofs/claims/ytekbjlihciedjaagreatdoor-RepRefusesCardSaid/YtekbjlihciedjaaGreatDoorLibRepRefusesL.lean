/-
  Own library of this claim, part 12: texts one behind the other.
-/
import Derived.Test.YtekbjlihciedjaaGreatDoorLibRepRefusesK
set_option maxRecDepth 100000
set_option maxHeartbeats 8000000
set_option linter.unusedVariables false
set_option linter.unusedSimpArgs false
namespace Go.Abs
open Go
def fz (l : List AV) : AV := if l.isEmpty then .nilsl else .vsl l l.length
def Arr (f : Nat -> AV) (n : Nat) (a : AV) : Prop := (n = 0 /\ a = .nilsl) \/ a = .vsl ((List.range n).map f) n
theorem flat_of {α : Type} {f : α -> AV} {p : α -> Prop} : ∀ {es : List (List AV)}, (∀ x ∈ es, ∃ m, x = [f m] /\ p m) -> ∃ xs : List α, es.flatten = xs.map f /\ xs.length = es.length /\ ∀ m ∈ xs, p m
 | [], _ => ⟨[], rfl, rfl, fun _ h => by simp at h⟩
 | x :: es, h => by
   obtain ⟨m, rfl, hp⟩ := h x (by simp)
   obtain ⟨xs, h1, h2, h3⟩ := flat_of (es := es) fun y hy => h y (by simp [hy])
   refine ⟨m :: xs, by simp [h1], by simp [h2], fun k hk => ?_⟩
   rcases List.mem_cons.1 hk with rfl | hk
   · exact hp
   · exact h3 k hk
theorem map_range {α : Type} (f : α -> AV) (d : α) (xs : List α) : xs.map f = (List.range xs.length).map fun k => f (xs.getD k d) := by
 apply List.ext_getElem
 · simp
 · intro i h1 h2
   have hi : i < xs.length := by simpa using h1
   simp [List.getD_eq_getElem?_getD, hi]
theorem shp_arr {P : Program} {t e : TypeId} {α : Type} (d : α) {f : α -> AV} {p : α -> Prop} (ht : P.underlying t = some (.slice e)) (he : ∀ as_, Shp P 7 e as_ -> ∃ m, as_ = [f m] /\ p m) (hd : p d) {a : AV} (h : Shp P 8 t [a]) :
  ∃ (n : Nat) (c : Nat -> α), n <= maxLen /\ (∀ k, p (c k)) /\ Arr (fun k => f (c k)) n a := by
 unfold Shp at h
 rw [ht] at h
 simp only [List.cons.injEq, and_true] at h
 rcases h with rfl | ⟨es, rfl, hm, h⟩
 · exact ⟨0, fun _ => d, Nat.zero_le _, fun _ => hd, .inl ⟨rfl, rfl⟩⟩
 · obtain ⟨xs, h1, h2, h3⟩ := flat_of fun x hx => he x (h x hx)
   refine ⟨es.length, fun k => xs.getD k d, hm, fun k => ?_, .inr ?_⟩
   · by_cases hk : k < xs.length
     · show p (xs.getD k d)
       rw [List.getD_eq_getElem?_getD, List.getElem?_eq_getElem hk]
       exact h3 _ (List.getElem_mem hk)
     · show p (xs.getD k d)
       rw [List.getD_eq_getElem?_getD, List.getElem?_eq_none (by omega)]
       exact hd
   · rw [h1, map_range f d xs, h2]
theorem shp_ints {P : Program} {t e : TypeId} (ht : P.underlying t = some (.slice e)) (he : P.underlying e = some (.int .i64)) {a : AV} (h : Shp P 8 t [a]) : ∃ (n : Nat) (c : Nat -> Int), n <= maxLen /\ (∀ k, (Lit.int .i64 (c k)).wf = true) /\ Arr (fun k => .int .i64 (c k)) n a := by
 obtain ⟨n, c, h1, h3, h2⟩ := shp_arr (α := Int) (p := fun m => (Lit.int .i64 m).wf = true) (f := fun b => .int .i64 b) 0 ht (fun as_ hs => by
  unfold Shp at hs
  rw [he] at hs
  exact hs) (by decide) h
 exact ⟨n, c, h1, h3, h2⟩
end Go.Abs
namespace Go.Proofs.YtekbjlihciedjaaGreatDoor
open Go Go.Abs Go.Rp Go.RowKit
theorem rprog_pg : rprog = .agg pgL := by kernel_rfl
theorem rcopy_run : fcall knownP Tryz.prog (Gof tab) 100000 300 55 [rprog] FH.empty (litK rprog) = true := by kernel_rfl
theorem rcopy (H : AHeap) : Does Tryz.prog (Gof tab) 55 [rprog] H fun r h => r = rprog /\ h = H :=
 zaR mixed5 plain5 za1 zaF (by kernel_rfl) (by kernel_rfl) rcopy_run H
theorem rcounter_run : fcall knownP Tryz.prog (Gof tab) 100000 300 12 [] FH.empty (litK rtext) = true := by kernel_rfl
theorem rcounter (H : AHeap) : Does Tryz.prog (Gof tab) 12 [] H fun r h => r = rtext /\ h = H :=
 zaR mixed5 plain5 za1 zaF (by kernel_rfl) (by kernel_rfl) rcounter_run H
theorem rprogram_run : fcall knownR1 Tryz.prog (Gof tab) 100000 300 11 [rtext] FH.empty (litK rprog) = true := by kernel_rfl
theorem rprogram (H : AHeap) : Does Tryz.prog (Gof tab) 11 [rtext] H fun r h => r = .agg pgL /\ h = H := by
 rw [<- rprog_pg]
 exact zaR mixed5 plain5 knownR1_good zaF (by kernel_rfl) (by kernel_rfl) rprogram_run H
theorem shp_bytes {P : Program} {t e : TypeId} (ht : P.underlying t = some (.slice e)) (he : P.underlying e = some (.int .u8)) {a : AV} (h : Shp P 8 t [a]) : ∃ bs, BtA a bs := by
 obtain ⟨n, c, h1, h3, h2⟩ := shp_arr (α := Int) (p := fun m => (Lit.int .u8 m).wf = true) (f := fun b => .int .u8 b) 0 ht (fun xs hs => by
  unfold Shp at hs
  rw [he] at hs
  exact hs) (by decide) h
 rcases h2 with ⟨_, rfl⟩ | rfl
 · exact ⟨[], BtA.nil⟩
 · refine ⟨(List.range n).map fun k => UInt8.ofNat (c k).toNat, .inr ⟨[], ?_⟩⟩
   have e : strCs ((List.range n).map fun k => UInt8.ofNat (c k).toNat) = (List.range n).map fun k => AV.int .u8 (c k) := by
    unfold strCs
    rw [List.map_map]
    refine List.map_congr_left fun k _ => ?_
    have h4 := h3 k
    simp only [Lit.wf, Function.comp] at h4 ⊢
    congr 1
    simp at h4
    have h5 : 0 <= c k /\ c k < 256 := by
     have e1 : IntKind.u8.min = 0 := rfl
     have e2 : IntKind.u8.max = 255 := rfl
     omega
    have : (UInt8.ofNat (c k).toNat).toNat = (c k).toNat := by
     rw [UInt8.toNat_ofNat']
     exact Nat.mod_eq_of_lt (by omega)
    omega
   rw [e]
   simp
structure DkS (d : Dk) : Prop where
 ok : dkOk d
 on : d.off = false
 fuse : d.fuse = 0
 a : d.f0.now.length <= 300
 b : d.f1.now.length <= 300
 c : d.f2.now.length <= 300
noncomputable def knownO : Ov := ovAdd 55 (litOv [([rprog], rprog)]) knownR4
theorem knownO_good : zaW Tryz.prog (Gof tab) knownO := ovAdd_good (litOv_good fun e he H => by
 simp only [List.mem_cons, List.not_mem_nil, or_false] at he
 rcases he with rfl
 · exact rcopy H) knownR4_good
def disk0 : List AV := [.nilsl, .nilsl, .bool false, .nilsl, .nilsl, .bool false, .nilsl, .nilsl, .bool false, .bool false, .bool false, .int .i64 0, .int .i64 1]
def digO : List AV := bsV [184, 26, 149, 68, 188, 21, 57, 71, 25, 14, 101, 74, 115, 214, 205, 127, 149, 1, 45, 225, 186, 36, 148, 50, 36, 235, 227, 56, 129, 42, 80, 22]
def objsO : List AObj := [.cells [.ptr 22 0, .ptr 0 0, .ptr 9 0, .ptr 7 0, .sl 19 0 1 1 1 true, .int .u64 0, .int .i64 0, .int .i64 0, .int .i64 0, .nilsl, .nilsl, .sl 38 0 32 1 1 false, .int .i64 1, .bool false],
 .cells [.int .i64 0, .int .i64 1, .int .u64 0, .int .u64 0, .nilsl, .int .i64 0, .bool false, .int .i64 0, .map 23, .map 24, .nilsl], .map [], .map [], .cells (pgL ++ [.sl 8 0 1 4 4 false, .int .i64 0]), .cells (ints (memI 0 0 false false)),
 .cells [.ptr 0 0, .nilsl, .int .i64 0, .int .i64 1, .bool false], .cells [.int .i64 2], .cells digO, .cells disk0]
theorem open_raw (Q : AV -> List (Option AObj) -> Bool) : heapK [.cells disk0] FH.empty (fun H => fcall knownO Tryz.prog (Gof tab) 100000 300 10 [.int .i64 0, .int .i64 1, rprog, .ptr 0 0] H fun v H' => Q v ([20, 22, 23, 24, 7, 8, 9, 19, 38, 0].map H'.abs.get)) = Q (.tuple [.ptr 20 0, .int .i64 0]) (objsO.map some) := by kernel_rfl
theorem disk0_at : DkC disk0 Dk.new := ⟨.nilsl, .nilsl, .nilsl, .nilsl, .nilsl, .nilsl, rfl, ⟨.nil, .nil⟩, ⟨.nil, .nil⟩, ⟨.nil, .nil⟩⟩
theorem does_after {P : Program} {G : Nat -> Option AV} {f : FuncId} {args : List AV} {H : AHeap} {R : AV -> AHeap -> Prop} (h : Does P G f args H R) : Does P G f args H fun r h => R r h /\ h.Wf :=
 ⟨fun E w vs hR hG hv => (h.run E w vs hR hG hv).mono fun v w' ⟨r, H1, E1, g1, g2, g3, g4⟩ => ⟨r, H1, E1, ⟨g1, g4.wf⟩, g2, g3, g4⟩⟩
theorem open_fresh {H : AHeap} {k : Nat} (hk : H.get k = some (.cells disk0)) :
  Does Tryz.prog (Gof tab) 10 [.int .i64 0, .int .i64 1, .agg pgL, .ptr k 0] H fun x h => ∃ r, x = .tuple [.ptr r 0, .int .i64 0] /\ H.next <= r /\ AlAt h (fun j => j = k \/ H.next <= j) r k 1 [] /\ ∀ j y, j ≠ k -> H.get j = some y -> h.get j = some y := by
 refine Does.wfs fun hw _ => ?_
 have hkn := zaa hw hk
 have hpt : IsPart (AHeap.ofList [.cells disk0]) (fun _ => k) H := part_one hk (by kernel_rfl)
 have hd := part_new (G := Gof tab) mixed5 plain5 knownO_good zaF (by kernel_rfl) (by kernel_rfl) (by rfl) open_raw hpt
 have ra : AV.rens (fun _ => k) [.int .i64 0, .int .i64 1, rprog, .ptr 0 0] = [.int .i64 0, .int .i64 1, .agg pgL, .ptr k 0] := by rw [rprog_pg]; rfl
 rw [ra] at hd
 have rn : ∀ j, 1 <= j -> zas (fun _ => k) 1 H.next j = H.next + (j - 1) := fun j hj => by unfold zas; rw [if_neg (by omega)]
 have r0 : zas (fun _ => k) 1 H.next 0 = k := by unfold zas; rw [if_pos (by omega)]
 have hd1 : Does Tryz.prog (Gof tab) 10 [.int .i64 0, .int .i64 1, .agg pgL, .ptr k 0] H fun x h => x = .tuple [.ptr (H.next + 19) 0, .int .i64 0] /\ h.get (H.next + 19) = some (.cells (rpV (H.next + 21) (.ptr k 0) (.ptr (H.next + 8) 0) (H.next + 6) (H.next + 18) 1 true (.int .u64 0) (.int .i64 0) (.int .i64 0) 0 .nilsl .nilsl (.sl (H.next + 37) 0 32 1 1 false) (.int .i64 1) (.bool false))) /\
   h.get (H.next + 21) = some (.cells (core0 .nilsl (H.next + 22) (H.next + 23))) /\ h.get (H.next + 22) = some (.map []) /\ h.get (H.next + 23) = some (.map []) /\ h.get (H.next + 6) = some (.cells (pgL ++ [.sl (H.next + 7) 0 1 4 4 false, .int .i64 0])) /\ h.get (H.next + 7) = some (.cells (ints (memI 0 0 false false))) /\
   h.get (H.next + 8) = some (.cells [.ptr k 0, .nilsl, .int .i64 0, .int .i64 1, .bool false]) /\ h.get (H.next + 18) = some (.cells [.int .i64 2]) /\ h.get (H.next + 37) = some (.cells digO) /\ h.get k = some (.cells disk0) /\ ∀ j y, j ≠ k -> H.get j = some y -> h.get j = some y := by
  refine hd.mono ?_
  rintro x h ⟨rfl, f1, f2, f3⟩
  have l1 : ([.cells disk0] : List AObj).length = 1 := rfl
  rw [l1] at f1
  have g0 := f1 0 (by decide)
  have g1 := f1 1 (by decide)
  have g2 : h.get (zas (fun _ => k) 1 H.next 23) = some (.map []) := f1 2 (by decide)
  have g3 : h.get (zas (fun _ => k) 1 H.next 24) = some (.map []) := f1 3 (by decide)
  have g4 : h.get (zas (fun _ => k) 1 H.next 7) = some (.cells (pgL ++ [.sl (zas (fun _ => k) 1 H.next 8) 0 1 4 4 false, .int .i64 0])) := f1 4 (by decide)
  have g5 : h.get (zas (fun _ => k) 1 H.next 8) = some (.cells (ints (memI 0 0 false false))) := f1 5 (by decide)
  have g6 := f1 6 (by decide)
  have g7 : h.get (zas (fun _ => k) 1 H.next 19) = some (.cells [.int .i64 2]) := f1 7 (by decide)
  have g8 : h.get (zas (fun _ => k) 1 H.next 38) = some (.cells digO) := f1 8 (by decide)
  have g9 : h.get (zas (fun _ => k) 1 H.next 0) = some (.cells disk0) := f1 9 (by decide)
  simp [objsO, AObj.ren, AV.rens, AV.ren, rn, r0] at g0 g1 g6
  simp only [rn _ (show 1 <= 23 by omega), rn _ (show 1 <= 24 by omega), rn _ (show 1 <= 7 by omega), rn _ (show 1 <= 8 by omega), rn _ (show 1 <= 19 by omega), rn _ (show 1 <= 38 by omega), r0] at g2 g3 g4 g5 g7 g8 g9
  refine ⟨?_, by simpa [rpV] using g0, by simpa [core0] using g1, g2, g3, g4, g5, g6, g7, g8, g9, fun j y hj hy => f2 j y (fun i hi => Ne.symm hj) hy⟩
  simp [AV.ren, AV.rens, rn]
 refine (does_after hd1).mono ?_
 rintro x h ⟨⟨rfl, g0, g1, g2, g3, g4, g5, g6, g7, g8, g9, g10⟩, hwf⟩
 refine ⟨H.next + 19, rfl, by omega, ⟨H.next + 21, H.next + 22, H.next + 23, H.next + 6, H.next + 7, H.next + 18, 1, true, false, H.next + 8, .nilsl, .nilsl, .sl (H.next + 37) 0 32 1 1 false, fun _ => False, fun x => x = H.next + 37, by simpa [recA, texts, lens] using g0, ?_, ?_, g7, ?_, fun x hx => ?_, fun x hx => hx.elim, fun x hx => ?_, (fun v hv => by simp at hv), rfl⟩, g10⟩
 · rw [if_pos (by simp)]
   exact ⟨⟨g1, g2, g3, by omega⟩, rfl⟩
 · exact ⟨.nilsl, 0, Dk.new, ⟨g6, .inl ⟨rfl, rfl⟩⟩, ⟨disk0, disk0_at, g9⟩, ⟨by unfold dkOk Dk.new Fl.new; simp, rfl, rfl, rfl, rfl, rfl⟩, rfl, fun i op e => (by cases e), fun _ => rfl⟩
 · have hdl : digO.length = 32 := by simp [digO, bsV]
   exact ⟨0, 0, false, false, [], digO, fun _ => False, fun x => x = H.next + 37, ⟨g4, g5, by decide, rfl, by omega, by decide, fun v hv => by simp [memI] at hv; subst hv; unfold i64; omega⟩, .inl ⟨rfl, rfl, rfl⟩, .inr ⟨H.next + 37, 0, 1, false, [], [], rfl, rfl, by simpa using g8, rfl, by rw [hdl]; rfl, rfl, Nat.le_refl _⟩, fun x hx => hx.elim, fun x hx => hx, fun x hx => hx.elim, by omega, by omega⟩
 · rcases hx with rfl | rfl | rfl | rfl | rfl | rfl | rfl | rfl | rfl
   · exact ⟨.inr (by omega), zaa hwf g0, fun h => h, by omega⟩
   · exact ⟨.inr (by omega), zaa hwf g1, fun h => h, by omega⟩
   · exact ⟨.inr (by omega), zaa hwf g2, fun h => h, by omega⟩
   · exact ⟨.inr (by omega), zaa hwf g3, fun h => h, by omega⟩
   · exact ⟨.inr (by omega), zaa hwf g6, fun h => h, by omega⟩
   · exact ⟨.inl rfl, zaa hwf g9, fun h => h, by omega⟩
   · exact ⟨.inr (by omega), zaa hwf g4, fun h => h, by omega⟩
   · exact ⟨.inr (by omega), zaa hwf g5, fun h => h, by omega⟩
   · exact ⟨.inr (by omega), zaa hwf g7, fun h => h, by omega⟩
 · exact ⟨.inr (by omega), by rw [hx]; exact zaa hwf g8⟩
end Go.Proofs.YtekbjlihciedjaaGreatDoor
namespace Go.Proofs.YtekbjlihciedjaaGreatDoor
open Go Go.Abs Go.Rp
variable {G : Nat -> Option AV}
theorem inputs_does {l : List En} {v : AV} (hv : EnF v l) (hl : l.length <= 1000000) (hr : ∀ e ∈ l, e.l.length <= 1000000) {H : AHeap} {r : Nat} {c0 c1 c2 c3 c4 c5 c6 c7 c8 c10 c11 c12 c13 : AV} (hr0 : H.get r = some (.cells [c0, c1, c2, c3, c4, c5, c6, c7, c8, v, c10, c11, c12, c13])) :
  Does Tryz.prog G 19 [.ptr r 0] H fun r h => CopG H h l r /\ ∀ j x, H.get j = some x -> h.get j = some x := by
 refine Does.wf Tryz.call19 fun hw _ => ?_
 refine zad Tryz.call19 Tryz.func19 rfl (by simp [Tryz.f19]) ?_
 have hal : alen Tryz.prog 48 v = some (.int .i64 l.length) := by rcases hv with ⟨rfl, rfl⟩ | ⟨ts, rfl⟩ <;> simp [alen]
 have vs := hv.sc
 have vc := hv.cells
 simp [hr0, vs, vc, hal, -alen]
 refine zai (fun k T' H' => ∃ i w, i + k = l.length /\ (∀ j x, H.get j = some x -> H'.get j = some x) /\ H.next <= H'.next /\ CopG H H' (l.take i) w /\ T' 3 = w /\ T' 9 = v /\ T' 10 = .int .i64 l.length /\ T' 11 = .int .i64 i) l.length ?_ ?_
 · exact ⟨0, .nilsl, by simp, fun j x hj => hj, Nat.le_refl _, ⟨.inl ⟨by simp, by simp [entsC], rfl⟩, fun _ => rfl⟩, by simp, by simp, by simp, by simp⟩
 rintro k T H1 ⟨i, w, hik, hk, hnx, hg, t3, t9_, t10_, t11_⟩ hw1 _
 by_cases hi : i < l.length
 · have hii : (i : Int) < l.length := by omega
   obtain ⟨C, hvC, hCl, hat⟩ := hv.cs (by omega)
   have g1 : l[i]? = some l[i] := List.getElem?_eq_getElem hi
   have hat := hat i _ g1
   have hre := hr _ (List.getElem_mem hi)
   have hsn : l.take (i + 1) = l.take i ++ [l[i]] := by rw [List.take_add_one, g1]; rfl
   have hln : (l.take i).length = i := by rw [List.length_take]; omega
   generalize l[i] = x at *
   have h3 : 3 <= C.length - i * 3 := by omega
   have wr : IntKind.i64.wrap ((i : Int) + 1) = ((i + 1 : Nat) : Int) := by rw [IntWalk.i64_in _ (by omega)]; omega
   rw [hvC] at t9_
   have rx := RowA.rowV x.row
   simp [t3, t9_, t10_, t11_, hi, hii, h3, hat, rx.sc, rx.cells]
   refine zab (copyEn_does (e := x) rx (by omega) _) ?_
   rintro r h ⟨rfl, rfl⟩
   have g2 : Gr ((H1.push (.cells [.int .u64 x.id, .int .u64 x.view, rowV x.row])).push (.cells [.int .u64 x.id, .int .u64 x.view, rowV x.row])) 3 i (entsC (l.take i)) w (fun j => H.next <= j /\ j < H1.next) := by
    rcases hg.1 with ⟨a1, a2, a3⟩ | ⟨p, o, cap, op, pre, junk, a1, a2, a3, a4, a5, a6, a7⟩
    · exact .inl ⟨by omega, a2, a3⟩
    · have pn := zaa hw1 a3
      have q1 : p ≠ H1.next := by omega
      have q2 : p ≠ H1.next + 1 := by omega
      exact .inr ⟨p, o, cap, op, pre, junk, by rw [a1, hln], ⟨a2, pn⟩, by simp [q1, q2, a3], a4, by rw [a5, hln], by rw [<- a6, hln], by rw [<- hln]; exact a7⟩
   obtain ⟨v', eff, f1, f2, f3, f4⟩ := g2.app (elemEn) (m := 1) (x := .sl (H1.next + 1) 0 3 1 1 false) (news := [.int .u64 x.id, .int .u64 x.view, rowV x.row]) (fun _ _ e => by cases e) rfl (by simp [zaj]) (by simp [rx.sc]) rfl (by omega) (by omega) (by omega) (by omega) (nx := H1.next + 1 + 1) rfl
   simp [enV, t3, t9_, t10_, t11_, rx.sc, rx.cells, -zao]
   rw [f1]
   generalize hH2 : ((H1.push (.cells [.int .u64 x.id, .int .u64 x.view, rowV x.row])).push (.cells [.int .u64 x.id, .int .u64 x.view, rowV x.row])) = H2 at *
   have nx2 : H2.next = H1.next + 1 + 1 := by rw [<- hH2]; rfl
   simp [t3, t9_, t10_, t11_]
   refine ⟨k - 1, by omega, i + 1, by omega, fun j y hj => ?_, by omega, v', ⟨?_, ?_⟩, rfl, hvC.symm, wr⟩
   · have j1 := zaa hw hj
     rw [f3 j (by omega) (by omega), <- hH2]
     have e0 : j ≠ H1.next := by omega
     have e1 : j ≠ H1.next + 1 := by omega
     simp [e0, e1, hk j y hj]
   · rw [hsn, entsC_append, List.length_append, hln]
     exact (f2.mono fun j hj => by omega)
   · intro e
     rw [hsn] at e
     simp at e
 · obtain rfl : i = l.length := by omega
   rw [List.take_length] at hg
   simp [t3, t10_, t11_]
   exact ⟨hg, hk⟩
def plainB (kind frm to : Int) (l : List En) (b : Bs) : Bool := (decide (1 <= kind) && decide (kind <= 99)) && ((decide (0 <= frm) && decide (frm <= 6)) && ((decide (0 <= to) && decide (to <= 6)) && (decide (l.length <= 200) && (decide (b.length <= 40000) && !(l.any fun e => decide (64 < e.l.length))))))
theorem plain_does {kind frm to view last op commit : Int} {ev bv : AV} {l : List En} {b : Bs} (he : EnF ev l) (hl : l.length <= 1000000) (hb : BtA bv b) (hbl : b.length <= 1000000000) (H : AHeap) :
  Does Tryz.prog G 146 [msV kind frm to view last op commit ev bv] H fun r h => r = .bool (plainB kind frm to l b) /\ h = H := by
 refine Does.forgot (R := fun r h => r = .bool (plainB kind frm to l b) /\ ∀ j x, H.get j = some x -> h.get j = some x) ?_ (fun hw ha r H1 ⟨h1, h2⟩ => ⟨h2, by rw [h1]; rfl, h1, rfl⟩)
 refine Does.wf Tryz.call146 fun hw _ => ?_
 have es := he.sc
 have ec := he.cells
 have bs : bv.scalar = true := by rcases hb with ⟨rfl, _⟩ | ⟨ts, rfl⟩ <;> rfl
 have bc : bv.cells = [bv] := by rcases hb with ⟨rfl, _⟩ | ⟨ts, rfl⟩ <;> rfl
 have el : alen Tryz.prog 48 ev = some (.int .i64 l.length) := he.alen (e := 62) (by simp)
 have bl : alen Tryz.prog 22 bv = some (.int .i64 b.length) := by rcases hb with ⟨rfl, rfl⟩ | ⟨ts, rfl⟩ <;> simp [alen]
 have hk : ∀ (C : AObj) (j : Nat) (x : AObj), H.get j = some x -> (if j = H.next then some C else H.get j) = some x := fun C j x hj => by
  have := zaa hw hj
  have e0 : j ≠ H.next := by omega
  simp [e0, hj]
 refine zad Tryz.call146 Tryz.func146 rfl (by simp [Tryz.f146]) ?_
 simp [msV, es, ec, bs, bc]
 refine zab (within_does _ _ _ _) ?_
 rintro r h1 ⟨rfl, rfl⟩
 cases c1 : (decide (1 <= kind) && decide (kind <= 99)) with
 | false =>
   simp [plainB, c1]
   exact hk _
 | true =>
 simp [es, ec, bs, bc]
 refine zab (within_does _ _ _ _) ?_
 rintro r h2 ⟨rfl, rfl⟩
 cases c2 : (decide (0 <= frm) && decide (frm <= 6)) with
 | false =>
   simp [plainB, c1, c2]
   exact hk _
 | true =>
 simp [es, ec, bs, bc]
 refine zab (within_does _ _ _ _) ?_
 rintro r h3 ⟨rfl, rfl⟩
 cases c3 : (decide (0 <= to) && decide (to <= 6)) with
 | false =>
   simp [plainB, c1, c2, c3]
   exact hk _
 | true =>
 by_cases c4 : l.length <= 200
 case neg =>
  have c4' : ¬ (l.length : Int) <= 200 := by omega
  simp [es, ec, bs, bc, el, c4, c4', plainB, -alen]
  exact hk _
 have c4' : (l.length : Int) <= 200 := by omega
 by_cases c5 : b.length <= 40000
 case neg =>
  have c5' : ¬ (b.length : Int) <= 40000 := by omega
  simp [es, ec, bs, bc, el, bl, c4, c4', c5, c5', plainB, -alen]
  exact hk _
 have c5' : (b.length : Int) <= 40000 := by omega
 simp [es, ec, bs, bc, el, bl, c4, c4', c5, c5', -alen]
 refine zab (contains_en he hl (p := fun e => decide (64 < e.l.length)) (caps := []) (fun e _ => longRow_does (.rowV e.row) _)) ?_
 rintro r h4 ⟨rfl, rfl⟩
 simp [plainB, c1, c2, c3, c4, c5]
 exact hk _
def textB (kind frm to : Int) (view last op commit : Nat) (l : List En) (b : Bs) : Bs := ((encIs [kind, frm, to] ++ encUs [view, last, op, commit, l.length]) ++ zaU l) ++ encS b
theorem text_run {kind frm to : Int} {view last op commit : Nat} {ev bv : AV} {l : List En} {b : Bs} (ik : i64 kind) (jf : i64 frm) (it : i64 to) (u1 : view < 2 ^ 64) (u2 : last < 2 ^ 64) (u3 : op < 2 ^ 64) (u4 : commit < 2 ^ 64) (he : EnF ev l) (hl : l.length <= 1000) (hsm : ∀ e ∈ l, EnSm e) (hb : BtA bv b) (hbl : b.length <= 1000000) (H : AHeap) :
  Does Tryz.prog G 147 [msV kind frm to view last op commit ev bv] H fun r h => r = bV (textB kind frm to view last op commit l b) := by
 refine Does.wf Tryz.call147 fun hw _ => ?_
 have es := he.sc
 have ec := he.cells
 have bs : bv.scalar = true := by rcases hb with ⟨rfl, _⟩ | ⟨ts, rfl⟩ <;> rfl
 have bc : bv.cells = [bv] := by rcases hb with ⟨rfl, _⟩ | ⟨ts, rfl⟩ <;> rfl
 have el : alen Tryz.prog 48 ev = some (.int .i64 l.length) := he.alen (e := 62) (by simp)
 have al5 : ∀ i, alen Tryz.prog 190 (.sl i 0 1 5 5 false) = some (.int .i64 5) := fun i => by simp [alen]
 have wl : IntKind.u64.wrap (l.length : Int) = l.length := IntWalk.u64_in _ (by omega)
 refine zad Tryz.call147 Tryz.func147 rfl (by simp [Tryz.f147]) ?_
 simp [msV, es, ec, bs, bc]
 obtain ⟨is, his⟩ : ∃ is : List Int, is = [kind, frm, to] := ⟨_, rfl⟩
 have hil : is.length = 3 := by rw [his]; rfl
 have hii : ∀ v ∈ is, i64 v := fun v hv => by
  rw [his] at hv
  simp only [List.mem_cons, List.not_mem_nil, or_false] at hv
  rcases hv with rfl | rfl | rfl <;> assumption
 obtain ⟨us, hus⟩ : ∃ us : List Nat, us = [view, last, op, commit, l.length] := ⟨_, rfl⟩
 have hul : us.length = 5 := by rw [hus]; rfl
 have hub : ∀ u ∈ us, u < 2 ^ 64 := fun u hu => by
  rw [hus] at hu
  simp only [List.mem_cons, List.not_mem_nil, or_false] at hu
  rcases hu with rfl | rfl | rfl | rfl | rfl <;> omega
 have ev5 : ([.int .u64 view, .int .u64 last, .int .u64 op, .int .u64 commit, .int .u64 l.length] : List AV) = u64s us := by rw [hus]; rfl
 have ev3 : ([.int .i64 kind, .int .i64 frm, .int .i64 to] : List AV) = ints is := by rw [his]; rfl
 obtain ⟨M, hM⟩ : ∃ M : List AV, M = [.int .i64 kind, .int .i64 frm, .int .i64 to, .int .u64 view, .int .u64 last, .int .u64 op, .int .u64 commit, ev, bv] := ⟨_, rfl⟩
 rw [ev3]
 refine zai (fun k T' H' => ∃ j : Nat, j + k = 3 /\ H'.get H.next = some (.cells M) /\ H'.get (H.next + 1) = some (.cells (ints is)) /\ BtA (T' 3) (encIs (is.take j)) /\ T' 1 = .ptr H.next 0 /\ T' 16 = .sl (H.next + 1) 0 1 3 3 false /\ T' 17 = .int .i64 3 /\ T' 18 = .int .i64 j) 3 ?_ ?_
 · refine ⟨0, rfl, ?_, ?_, ?_, ?_, ?_, ?_, ?_⟩ <;> simp [hM]
   exact .nil
 rintro k T H1 ⟨j, hjk, hm1, hi1, ht, t1, t16, t17, t18⟩ hw1 _
 have htl : (encIs (is.take j)).length <= 30 := by
  have := encIs_le10 (l := is.take j) fun v hv => hii v (List.mem_of_mem_take hv)
  rw [List.length_take] at this; omega
 by_cases hj : j < 3
 · have hj' : (j : Int) < 3 := by omega
   obtain ⟨v, hv⟩ : ∃ v, is[j]? = some v := ⟨_, List.getElem?_eq_getElem (by omega)⟩
   have hvi := hii v (List.mem_of_getElem? hv)
   have hat : (ints is)[j]? = some (.int .i64 v) := by simp [ints, hv]
   have hjl : j < (ints is).length := by rw [zaS]; omega
   have hjl2 : j <= (ints is).length := by omega
   have hgx : (ints is)[j]'hjl = .int .i64 v := (List.getElem?_eq_some_iff.1 hat).2
   have hdr : List.drop j (ints is) = .int .i64 v :: List.drop (j + 1) (ints is) := by rw [List.drop_eq_getElem_cons hjl, hgx]
   have wr : IntKind.i64.wrap ((j : Int) + 1) = ((j + 1 : Nat) : Int) := by rw [IntWalk.i64_in _ (by omega)]; omega
   have tks : encIs (is.take (j + 1)) = encIs (is.take j) ++ encI v := by rw [List.take_add_one, hv, encIs_append]; simp [encIs]
   generalize ints is = IS at *
   simp [t1, t16, t17, t18, hj, hj', hi1, hjl2, hdr]
   refine zab (packI_does hvi ht (by omega) _) ?_
   rintro r h ⟨rfl, rfl⟩
   simp [t1, t16, t17, t18]
   exact ⟨k - 1, by omega, j + 1, by omega, hm1, hi1, by rw [tks]; exact .bV _, wr⟩
 obtain rfl : j = 3 := by omega
 rw [List.take_of_length_le (by omega)] at ht htl
 rw [hM] at hm1
 simp [t1, t16, t17, t18, hm1, es, ec, bs, bc, el, wl, al5, -alen]
 rw [ev5]
 have q0 : H.next ≠ H1.next := by have := zaa hw1 hm1; omega
 rw [<- hM] at hm1
 refine zai (fun k T' H' => ∃ j : Nat, j + k = 5 /\ H'.get H.next = some (.cells M) /\ H'.get H1.next = some (.cells (u64s us)) /\ BtA (T' 3) (encIs is ++ encUs (us.take j)) /\ T' 1 = .ptr H.next 0 /\ T' 38 = .sl H1.next 0 1 5 5 false /\ T' 39 = .int .i64 5 /\ T' 40 = .int .i64 j) 5 ?_ ?_
 · refine ⟨0, rfl, ?_, ?_, by simpa [encUs] using ht, ?_, ?_, ?_, ?_⟩ <;> simp [q0, hm1, t1]
 clear t1 t16 t17 t18 ht
 have hL1 := htl
 clear htl
 rintro k T H2 ⟨j, hjk, hm2, hi2, ht, t1, t38, t39, t40⟩ hw2 _
 have htl : (encIs is ++ encUs (us.take j)).length <= 80 := by
  have := encUs_le (l := us.take j) fun v hv => hub v (List.mem_of_mem_take hv)
  rw [List.length_take] at this; rw [List.length_append]; omega
 by_cases hj : j < 5
 · have hj' : (j : Int) < 5 := by omega
   obtain ⟨u, hu⟩ : ∃ u, us[j]? = some u := ⟨_, List.getElem?_eq_getElem (by omega)⟩
   have huu := hub u (List.mem_of_getElem? hu)
   have hat := u64s_at hu
   have hjl2 : j <= (u64s us).length := by simp [u64s]; omega
   have hdr : List.drop j (u64s us) = .int .u64 u :: List.drop (j + 1) (u64s us) := by
    obtain ⟨q1, q2⟩ := List.getElem?_eq_some_iff.1 hat
    rw [List.drop_eq_getElem_cons q1, q2]
   have wr : IntKind.i64.wrap ((j : Int) + 1) = ((j + 1 : Nat) : Int) := by rw [IntWalk.i64_in _ (by omega)]; omega
   have tks : encIs is ++ encUs (us.take (j + 1)) = encIs is ++ (encUs (us.take j) ++ encU u) := by rw [List.take_add_one, hu]; simp only [Option.toList_some, encUs_snoc]
   generalize u64s us = IS at *
   simp [t1, t38, t39, t40, hj, hj', hi2, hjl2, hdr]
   refine zab (zaQ huu ht (by omega) _) ?_
   rintro r h ⟨rfl, rfl⟩
   simp [t1, t38, t39, t40]
   exact ⟨k - 1, by omega, j + 1, by omega, hm2, hi2, by rw [tks]; exact .bV _, wr⟩
 obtain rfl : j = 5 := by omega
 rw [List.take_of_length_le (by omega)] at ht htl
 rw [hM] at hm2
 simp [t1, t38, t39, t40, hm2, es, ec, bs, bc, el, -alen]
 rw [<- hM] at hm2
 refine zai (fun k T' H' => ∃ j : Nat, j + k = l.length /\ H'.get H.next = some (.cells M) /\ BtA (T' 3) ((encIs is ++ encUs us) ++ zaU (l.take j)) /\ T' 1 = .ptr H.next 0 /\ T' 49 = ev /\ T' 50 = .int .i64 l.length /\ T' 51 = .int .i64 j) l.length ?_ ?_
 · refine ⟨0, by simp, ?_, by simpa [zaU] using ht, ?_, ?_, ?_, ?_⟩ <;> simp [hm2, t1]
 clear t1 t38 t39 t40 ht
 have hL2 := htl
 clear htl
 rintro k T H3 ⟨j, hjk, hm3, ht, t1, t49, t50, t51⟩ hw3 _
 have htl : ((encIs is ++ encUs us) ++ zaU (l.take j)).length <= 80 + 1010 * 1000 := by
  have := encEns_le (l := l.take j) fun v hv => hsm v (List.mem_of_mem_take hv)
  rw [List.length_take] at this; rw [List.length_append]; omega
 by_cases hj : j < l.length
 · have hj' : (j : Int) < l.length := by omega
   obtain ⟨C, hvC, hCl, hat⟩ := he.cs (by omega)
   have g1 : l[j]? = some l[j] := List.getElem?_eq_getElem hj
   have hat := hat j _ g1
   have hsme := hsm _ (List.getElem_mem hj)
   have tks : encIs is ++ (encUs us ++ zaU (l.take (j + 1))) = encIs is ++ (encUs us ++ (zaU (l.take j) ++ encS (encEn l[j]))) := by rw [List.take_add_one, g1]; simp only [Option.toList_some, encEns_snoc]
   generalize l[j] = e at *
   have hel := encEn_le hsme
   have h3 : 3 <= C.length - j * 3 := by omega
   have wr : IntKind.i64.wrap ((j : Int) + 1) = ((j + 1 : Nat) : Int) := by rw [IntWalk.i64_in _ (by omega)]; omega
   have rx := RowA.rowV e.row
   rw [hvC] at t49
   simp [t1, t49, t50, t51, hj, hj', h3, hat, rx.sc, rx.cells]
   refine zab (putEn_does (e := e) rx hsme.1 (by have := hsme.2; omega) _) ?_
   rintro r h ⟨rfl, rfl⟩
   have ab := zaN (encEn e)
   have tk : List.take (encEn e).length (strCs (encEn e)) = strCs (encEn e) := by rw [<- zac, List.take_length]
   simp [t1, t49, t50, t51, bV, ab, tk, zac, -abytes]
   refine zab (packS_does (s := encEn e) (by omega) ht (by omega) _) ?_
   rintro r h ⟨rfl, rfl⟩
   simp [t1, t49, t50, t51]
   refine ⟨k - 1, by omega, j + 1, by omega, ?_, by rw [tks]; exact .bV _, hvC.symm, wr⟩
   have q : H.next ≠ H3.next := by have := zaa hw3 hm3; omega
   simp [q, hm3]
 obtain rfl : j = l.length := by omega
 rw [List.take_of_length_le (Nat.le_refl _)] at ht htl
 rw [hM] at hm3
 rcases hb with ⟨rfl, rfl⟩ | ⟨ts, rfl⟩
 · simp [t1, t49, t50, t51, hm3]
   refine zab (packS_does (s := []) (by simp) ht (by omega) _) ?_
   rintro r h ⟨rfl, rfl⟩
   simp [textB, his, hus]
 · have ab := zaN b
   have tk2 : List.take b.length (strCs b ++ ts) = strCs b := List.take_left' (zac b)
   simp [t1, t49, t50, t51, hm3, ab, tk2, zac, -abytes]
   refine zab (packS_does (s := b) (by omega) ht (by omega) _) ?_
   rintro r h ⟨rfl, rfl⟩
   simp [textB, his, hus]
def goodB (kind frm to : Int) (view last op commit : Nat) (l : List En) (b : Bs) : Bool := plainB kind frm to l b && decide ((textB kind frm to view last op commit l b).length <= 60000)
theorem goodB_from {kind frm to : Int} {view last op commit : Nat} {l : List En} {b : Bs} (h : goodB kind frm to view last op commit l b = true) : 0 <= frm := by
 simp only [goodB, plainB, Bool.and_eq_true, decide_eq_true_eq] at h
 exact h.1.2.1.1
theorem good_does {kind frm to : Int} {view last op commit : Nat} {ev bv : AV} {l : List En} {b : Bs} (ik : i64 kind) (jf : i64 frm) (it : i64 to) (u1 : view < 2 ^ 64) (u2 : last < 2 ^ 64) (u3 : op < 2 ^ 64) (u4 : commit < 2 ^ 64) (he : EnF ev l) (hl : l.length <= 1000) (hok : ∀ e ∈ l, e.ok) (hb : BtA bv b) (hbl : b.length <= 1000000) (H : AHeap) :
  Does Tryz.prog G 97 [msV kind frm to view last op commit ev bv] H fun r h => r = .bool (goodB kind frm to view last op commit l b) := by
 refine Does.wf Tryz.call97 fun hw _ => ?_
 have es := he.sc
 have ec := he.cells
 have bs : bv.scalar = true := by rcases hb with ⟨rfl, _⟩ | ⟨ts, rfl⟩ <;> rfl
 have bc : bv.cells = [bv] := by rcases hb with ⟨rfl, _⟩ | ⟨ts, rfl⟩ <;> rfl
 refine zad Tryz.call97 Tryz.func97 rfl (by simp [Tryz.f97]) ?_
 have hmv : ∀ (k f t : Int) (v la o c : Nat), msV k f t v la o c ev bv = .agg [.int .i64 k, .int .i64 f, .int .i64 t, .int .u64 v, .int .u64 la, .int .u64 o, .int .u64 c, ev, bv] := fun _ _ _ _ _ _ _ => rfl
 rw [hmv]
 simp [es, ec, bs, bc]
 refine zab (plain_does (view := view) (last := last) (op := op) (commit := commit) he (by omega) hb (by omega) _) ?_
 rintro r h1 ⟨rfl, rfl⟩
 cases hp : plainB kind frm to l b with
 | false => simp [goodB, hp]
 | true =>
   have hpp := hp
   simp only [plainB, Bool.and_eq_true, decide_eq_true_eq, Bool.not_eq_true', List.any_eq_false] at hpp
   simp [es, ec, bs, bc]
   refine zab (text_run ik jf it u1 u2 u3 u4 he (by omega) (fun e h => ⟨hok e h, by have := hpp.2.2.2.2.2 e h; omega⟩) hb (by omega) _) ?_
   rintro r h2 rfl
   simp [bV, es, ec, bs, bc]
   simp [goodB, hp]
   omega
theorem rdI_any {H : AHeap} {k : Nat} {r : Rd} (hk : RdAt H k r) (hl : r.b.length <= 1000000) : Does Tryz.prog G 70 [.ptr k 0] H fun x h => ∃ v R, i64 v /\ R.b.length <= 1000000 /\ x = .int .i64 v /\ RdTo H h k R :=
 (rdI_does hk (by omega)).mono fun x h ⟨h1, h2⟩ => ⟨_, _, unzig_i64 (rdU_lt r).1, by have := (rdU_lt r).2; simp only [Rd.I]; omega, h1, h2⟩
theorem rdU_any {H : AHeap} {k : Nat} {r : Rd} (hk : RdAt H k r) (hl : r.b.length <= 1000000) : Does Tryz.prog G 62 [.ptr k 0] H fun x h => ∃ u R, u < 2 ^ 64 /\ R.b.length <= 1000000 /\ x = .int .u64 (u : Nat) /\ RdTo H h k R :=
 (rdU_does hk (by omega)).mono fun x h ⟨h1, h2⟩ => ⟨_, _, (rdU_lt r).1, by have := (rdU_lt r).2; omega, h1, h2⟩
theorem rdS_any {H : AHeap} {k : Nat} {r : Rd} (hk : RdAt H k r) (hl : r.b.length <= 1000000) : Does Tryz.prog G 63 [.ptr k 0] H fun x h => ∃ s R, s.length <= 1000000 /\ R.b.length <= 1000000 /\ x = .str s /\ RdTo H h k R := by
 obtain ⟨s, R, e⟩ : ∃ s R, r.S = (s, R) := ⟨_, _, rfl⟩
 exact (rdS_e e hk hl).mono fun x h ⟨h1, h2⟩ => ⟨s, R, (rdS_b e hl).1, (rdS_b e hl).2, h1, h2⟩
theorem getEn_good {b : Bs} {e : En} (h : getEn b = some e) (hl : b.length <= 1000000) : e.ok := by
 unfold getEn at h
 have f1 := rdU_lt (Rd.mk b false)
 have f2 := rdU_lt (Rd.mk b false).U.2
 have f3 := rdU_lt (Rd.mk b false).U.2.U.2
 simp only at h f1
 split at h
 · cases h
 · split at h
   · cases h
   · simp only [Option.some.injEq] at h
     subst h
     have hn : (Rd.mk b false).U.2.U.2.U.1 <= 1000000 := by omega
     have hi := rdIs_i64 (Rd.mk b false).U.2.U.2.U.1 (Rd.mk b false).U.2.U.2.U.2
     have hk := rdIs_len (Rd.mk b false).U.2.U.2.U.1 (Rd.mk b false).U.2.U.2.U.2
     refine ⟨f1.1, f2.1, ?_, ?_⟩
     · simp only [En.l]
       split
       · simp
       · simp only [Option.getD_some, hk]; omega
     · intro v hv
       simp only [En.l] at hv
       split at hv
       · simp at hv
       · exact hi v hv
theorem rdEns_good : ∀ (n : Nat) (r : Rd) (l : List En) (R : Rd), rdEns n r = (some l, R) -> r.b.length <= 1000000 -> l.length = n /\ (∀ e ∈ l, e.ok) /\ R.b.length <= 1000000
 | 0, r, l, R, h, hl => by
   simp only [rdEns, Prod.mk.injEq, Option.some.injEq] at h
   obtain ⟨rfl, rfl⟩ := h
   simp [hl]
 | n + 1, r, l, R, h, hl => by
   obtain ⟨s, R1, e⟩ : ∃ s R, r.S = (s, R) := ⟨_, _, rfl⟩
   have f := rdS_b e hl
   simp only [rdEns, e] at h
   cases hg : getEn s with
   | none => rw [hg] at h; simp at h
   | some a =>
     rw [hg] at h
     simp only [Prod.mk.injEq, Option.map_eq_some_iff] at h
     obtain ⟨⟨l2, h1, rfl⟩, h2⟩ := h
     have ih := rdEns_good n R1 l2 R (by rw [<- h1, <- h2]) f.2
     refine ⟨by simp [ih.1], ?_, ih.2.2⟩
     intro x hx
     rcases List.mem_cons.1 hx with rfl | hx
     · exact getEn_good hg f.1
     · exact ih.2.1 x hx
theorem ensOf_good {r : Rd} {l : List En} {R : Rd} (h : ensOf r = (some l, R)) (hl : r.b.length <= 1000000) : l.length <= 200 /\ (∀ e ∈ l, e.ok) /\ R.b.length <= 1000000 := by
 unfold ensOf at h
 have f := rdU_lt r
 split at h
 · simp at h
 · have := rdEns_good _ _ _ _ h (by omega)
   exact ⟨by omega, this.2⟩
theorem EnsG.gr {H h : AHeap} {l : List En} {w : AV} (hg : EnsG H h l w) : Gr h 3 l.length (entsC l) w (fun j => H.next <= j) := by
 rcases hg with ⟨rfl, rfl⟩ | ⟨p, cap, op, junk, h0, rfl, h1, h2, h3⟩
 · exact .inl ⟨rfl, rfl, rfl⟩
 · exact .inr ⟨p, 0, cap, op, [], junk, rfl, h1, by simpa using h2, rfl, entsC_len l, h3, by omega⟩
def BtG (H h : AHeap) (v : AV) (b : Bs) : Prop := (v = .nilsl /\ b = []) \/ ∃ p, v = .sl p 0 1 b.length b.length true /\ H.next <= p /\ h.get p = some (.cells (strCs b))
def MsG (H h : AHeap) (m : AV) : Prop := ∃ (kind frm to : Int) (view last op commit : Nat) (w bv : AV) (l : List En) (b : Bs), i64 kind /\ i64 frm /\ i64 to /\ view < 2 ^ 64 /\ last < 2 ^ 64 /\ op < 2 ^ 64 /\ commit < 2 ^ 64 /\ l.length <= 200 /\ (∀ e ∈ l, e.ok) /\ b.length <= 1000000 /\
 m = msV kind frm to view last op commit w bv /\ Gr h 3 l.length (entsC l) w (fun j => H.next <= j) /\ BtG H h bv b
def GetG (H : AHeap) (r : AV) (h : AHeap) : Prop := (∀ j x, H.get j = some x -> h.get j = some x) /\ ∃ m c, r = .tuple [m, .int .i64 c] /\ (c = 0 \/ c = 3) /\ MsG H h m
theorem res_agg (get : Nat -> Option AObj) (n : Nat) (cs : List AV) : AV.res get (n + 1) (.agg cs) = (zaw (cs.map (AV.res get n))).map .agg := rfl
theorem res_strCs (get : Nat -> Option AObj) (n : Nat) : ∀ s : Bs, zaw ((strCs s).map (AV.res get (n + 1))) = some (strCs s)
 | [] => rfl
 | a :: s => by
   have := res_strCs get n s
   simp only [strCs, List.map_cons, res_int, zaw] at this ⊢
   rw [this]; rfl
theorem res_gr {H : AHeap} {l : List En} {w : AV} {b : Nat -> Prop} (h : Gr H 3 l.length (entsC l) w b) : ∃ u, EnF u l /\ AV.res H.get 3 w = some u := by
 rcases h with ⟨h1, _, rfl⟩ | ⟨p, o, cap, op, pre, junk, rfl, _, a3, a4, a5, _⟩
 · exact ⟨.nilsl, .inl ⟨rfl, List.length_eq_zero_iff.1 h1⟩, rfl⟩
 · refine ⟨.vsl (entsC l) l.length, .inr ⟨[], by simp⟩, ?_⟩
   have := res_ents H.get 0 l
   rw [res_sl _ _ _ _ _ _ _ _ a3, List.drop_left' a4, List.take_left' a5, this]
   rfl
def msZ : List AV := [.int .i64 0, .int .i64 0, .int .i64 0, .int .u64 0, .int .u64 0, .int .u64 0, .int .u64 0, .nilsl, .nilsl]
theorem MsG.zero (H h : AHeap) : MsG H h (.agg msZ) := ⟨0, 0, 0, 0, 0, 0, 0, .nilsl, .nilsl, [], [], ⟨by decide, by decide⟩, ⟨by decide, by decide⟩, ⟨by decide, by decide⟩, by decide, by decide, by decide, by decide, by simp, by simp, by simp, rfl, .inl ⟨rfl, rfl, rfl⟩, .inl ⟨rfl, rfl⟩⟩
theorem get_run {bv : AV} {b : Bs} (hb : BtA bv b) (hl : b.length <= 1000000) (H : AHeap) : Does Tryz.prog G 51 [bv] H (GetG H) := by
 refine Does.wf Tryz.call51 fun hw _ => ?_
 refine zad Tryz.call51 Tryz.func51 rfl (by simp [Tryz.f51]) ?_
 have bl : alen Tryz.prog 22 bv = some (.int .i64 b.length) := by rcases hb with ⟨rfl, rfl⟩ | ⟨ts, rfl⟩ <;> simp [alen]
 simp
 refine zab (take_does hb (by omega) _) ?_
 rintro r h ⟨tv, htv, rfl, rfl⟩
 have htl := take_len b
 generalize hT : take b = tk at *
 obtain ⟨n, text, size⟩ := tk
 simp only at htv htl ⊢
 have hold : ∀ (X : AObj), ∀ j x, H.get j = some x -> (if j = H.next then some X else H.get j) = some x := fun X j x hj => by
  have := zaa hw hj
  have e0 : j ≠ H.next := by omega
  simp [e0, hj]
 simp
 by_cases hS : size = 0
 · simp [hS, GetG]
   exact ⟨hold _, _, _, ⟨rfl, rfl⟩, .inr rfl, MsG.zero _ _⟩
 by_cases hL : size = b.length
 case neg =>
  have hL' : ((size : Int) != (b.length : Int)) = true := by rw [bne_iff_ne]; omega
  simp [hS, bl, hL, hL', GetG, -alen]
  exact ⟨hold _, _, _, ⟨rfl, rfl⟩, .inr rfl, MsG.zero _ _⟩
 subst hL
 have hB : b ≠ [] := fun e => hS (by rw [e]; rfl)
 by_cases hN : n = 0
 case neg =>
  have hN' : ((n : Int) != 0) = true := by rw [bne_iff_ne]; omega
  simp [hB, bl, hN, hN', GetG, -alen]
  exact ⟨hold _, _, _, ⟨rfl, rfl⟩, .inr rfl, MsG.zero _ _⟩
 subst hN
 simp [hB, bl, -alen]
 refine zae (packRead_does htv (by omega) _) ?_
 rintro r H1 ⟨k, rfl, hk, hr, hs⟩ hw1 _
 have hs' : ∀ j x, H.get j = some x -> H1.get j = some x := fun j x hj => hs j x (by
  have := zaa hw hj
  have e0 : j ≠ H.next := by omega
  simp [e0, hj])
 have hq : H1.get H.next = some (.cells msZ) := hs H.next (.cells msZ) (by simp [msZ])
 simp at hk
 have hr : RdAt H1 k ⟨text, false⟩ := hr
 have hkn : k < H1.next := by obtain ⟨v, _, h⟩ := hr; exact zaa hw1 h
 clear hs
 have step : ∀ {Ha Hb : AHeap} {R : Rd}, ((∀ j x, H.get j = some x -> Ha.get j = some x) /\ Ha.get H.next = some (.cells msZ) /\ k < Ha.next) -> RdTo Ha Hb k R -> ((∀ j x, H.get j = some x -> Hb.get j = some x) /\ Hb.get H.next = some (.cells msZ) /\ k < Hb.next) := by
  rintro Ha Hb R ⟨g1, g2, g3⟩ ht
  refine ⟨fun j x hj => ?_, ?_, by rw [ht.next]; exact g3⟩
  · rw [ht.off (by have := zaa hw hj; omega)]; exact g1 j x hj
  · rw [ht.off (by omega)]; exact g2
 have G1 : (∀ j x, H.get j = some x -> H1.get j = some x) /\ H1.get H.next = some (.cells msZ) /\ k < H1.next := ⟨hs', hq, hkn⟩
 clear hs' hq hkn
 simp
 refine zae (rdI_any hr (by simp only; omega)) ?_
 rintro r H2 ⟨kind, R1, i1, f1, rfl, ht⟩ hw2 _
 have G2 := step G1 ht
 have hr := ht.at
 simp
 refine zae (rdI_any hr f1) ?_
 rintro r H3 ⟨frm, R2, i2, f2, rfl, ht⟩ hw3 _
 have G3 := step G2 ht
 have hr := ht.at
 simp
 refine zae (rdI_any hr f2) ?_
 rintro r H4 ⟨to, R3, i3, f3, rfl, ht⟩ hw4 _
 have G4 := step G3 ht
 have hr := ht.at
 simp
 refine zae (rdU_any hr f3) ?_
 rintro r H5 ⟨view, R4, i4, f4, rfl, ht⟩ hw5 _
 have G5 := step G4 ht
 have hr := ht.at
 simp
 refine zae (rdU_any hr f4) ?_
 rintro r H6 ⟨last, R5, i5, f5, rfl, ht⟩ hw6 _
 have G6 := step G5 ht
 have hr := ht.at
 simp
 refine zae (rdU_any hr f5) ?_
 rintro r H7 ⟨op, R6, i6, f6, rfl, ht⟩ hw7 _
 have G7 := step G6 ht
 have hr := ht.at
 simp
 refine zae (rdU_any hr f6) ?_
 rintro r H8 ⟨commit, R7, i7, f7, rfl, ht⟩ hw8 _
 have G8 := step G7 ht
 have hr := ht.at
 clear ht G1 G2 G3 G4 G5 G6 G7
 obtain ⟨g1, g2, g3⟩ := G8
 have g4 := zaa hw8 g2
 simp
 have hr : RdAt (H8.push (.cells [.int .i64 kind, .int .i64 frm, .int .i64 to, .int .u64 view, .int .u64 last, .int .u64 op, .int .u64 commit, .nilsl, .nilsl])) k R7 := by
  obtain ⟨v, a1, a2⟩ := hr
  have e0 : k ≠ H8.next := by omega
  exact ⟨v, a1, by simp [e0, a2]⟩
 refine zae (entries_run hr (by omega)) ?_
 rintro r H9 ⟨k9, hE⟩ hw9 _
 have m9 := k9 H8.next (.cells [.int .i64 kind, .int .i64 frm, .int .i64 to, .int .u64 view, .int .u64 last, .int .u64 op, .int .u64 commit, .nilsl, .nilsl]) (by omega) (by simp)
 have z9 : H9.get H.next = some (.cells msZ) := k9 H.next _ (by omega) (by
  have e0 : H.next ≠ H8.next := by omega
  simp [e0, g2])
 have h9 : ∀ j x, H.get j = some x -> H9.get j = some x := fun j x hj => by
  have := zaa hw hj
  have e0 : j ≠ H8.next := by omega
  exact k9 j x (by omega) (by simp [e0, g1 j x hj])
 have e8 : H.next ≠ H8.next := by omega
 generalize hO : ensOf R7 = oo at *
 obtain ⟨o, R8⟩ := oo
 simp only at hE
 cases o with
 | none =>
   obtain rfl := hE
   have z9' := z9
   simp only [msZ] at z9'
   simp [m9, z9', e8, GetG]
   refine ⟨fun j x hj => ?_, _, _, ⟨rfl, rfl⟩, .inr rfl, MsG.zero _ _⟩
   have := zaa hw hj
   have e0 : j ≠ H.next := by omega
   have e1 : j ≠ H8.next := by omega
   simp [e0, e1, h9 j x hj]
 | some l =>
   obtain ⟨w, rfl, hwG, hr9⟩ := hE
   have hG := ensOf_good hO f7
   have gr := hwG.gr
   have n9 := zaa hw9 m9
   have wsc := gr.sc
   have wcl := gr.cells
   simp [m9, wsc, wcl]
   have hrA : RdAt (H9.set H8.next (.cells [.int .i64 kind, .int .i64 frm, .int .i64 to, .int .u64 view, .int .u64 last, .int .u64 op, .int .u64 commit, w, .nilsl])) k R8 := by
    obtain ⟨v, a1, a2⟩ := hr9
    have e0 : k ≠ H8.next := by omega
    exact ⟨v, a1, by simp [e0, a2]⟩
   refine zae (rdS_any hrA hG.2.2) ?_
   rintro r HB ⟨s, R9, hsl, hRl, rfl, ht⟩ hwB _
   have hnB : HB.next = H9.next := ht.next
   have mB : HB.get H8.next = some (.cells [.int .i64 kind, .int .i64 frm, .int .i64 to, .int .u64 view, .int .u64 last, .int .u64 op, .int .u64 commit, w, .nilsl]) := by
    rw [ht.off (by omega)]; simp
   have oB : ∀ j, j ≠ k -> j ≠ H8.next -> HB.get j = H9.get j := fun j h1 h2 => by rw [ht.off h1]; simp [h2]
   obtain ⟨vB, bB, gB⟩ := ht.at
   have e0 : s.map (fun b => AV.int .u8 b.toNat) = strCs s := rfl
   have e1 : H8.next ≠ HB.next := by omega
   have e2 : k ≠ HB.next := by omega
   have e3 : k ≠ H8.next := by omega
   have e4 : H.next ≠ HB.next := by omega
   have e5 : H.next ≠ k := by omega
   simp [e0, mB, wsc, wcl, e1]
   have hr10 : RdAt ((HB.push (.cells (strCs s))).set H8.next (.cells [.int .i64 kind, .int .i64 frm, .int .i64 to, .int .u64 view, .int .u64 last, .int .u64 op, .int .u64 commit, w, .sl HB.next 0 1 s.length s.length true])) k R9 := ⟨vB, bB, by simp [e2, e3, gB]⟩
   have m10 : ((HB.push (.cells (strCs s))).set H8.next (.cells [.int .i64 kind, .int .i64 frm, .int .i64 to, .int .u64 view, .int .u64 last, .int .u64 op, .int .u64 commit, w, .sl HB.next 0 1 s.length s.length true])).get H8.next = some (.cells [.int .i64 kind, .int .i64 frm, .int .i64 to, .int .u64 view, .int .u64 last, .int .u64 op, .int .u64 commit, w, .sl HB.next 0 1 s.length s.length true]) := by simp
   have z10 : ((HB.push (.cells (strCs s))).set H8.next (.cells [.int .i64 kind, .int .i64 frm, .int .i64 to, .int .u64 view, .int .u64 last, .int .u64 op, .int .u64 commit, w, .sl HB.next 0 1 s.length s.length true])).get H.next = some (.cells msZ) := by
    simp [e4, e8, oB H.next e5 e8, z9]
   have b10 : ((HB.push (.cells (strCs s))).set H8.next (.cells [.int .i64 kind, .int .i64 frm, .int .i64 to, .int .u64 view, .int .u64 last, .int .u64 op, .int .u64 commit, w, .sl HB.next 0 1 s.length s.length true])).get HB.next = some (.cells (strCs s)) := by
    simp [Ne.symm e1]
   have h10 : ∀ j x, H.get j = some x -> ((HB.push (.cells (strCs s))).set H8.next (.cells [.int .i64 kind, .int .i64 frm, .int .i64 to, .int .u64 view, .int .u64 last, .int .u64 op, .int .u64 commit, w, .sl HB.next 0 1 s.length s.length true])).get j = some x := fun j x hj => by
    have := zaa hw hj
    have q1 : j ≠ H8.next := by omega
    have q2 : j ≠ HB.next := by omega
    simp [q1, q2, oB j (by omega) q1, h9 j x hj]
   have gr10 : Gr ((HB.push (.cells (strCs s))).set H8.next (.cells [.int .i64 kind, .int .i64 frm, .int .i64 to, .int .u64 view, .int .u64 last, .int .u64 op, .int .u64 commit, w, .sl HB.next 0 1 s.length s.length true])) 3 l.length (entsC l) w (fun j => H.next < j) :=
    (gr.keep (fun j x hj hx => by
      have hj' : H8.next + 1 <= j := hj
      have := zaa hw9 hx
      have q1 : j ≠ H8.next := by omega
      have q2 : j ≠ HB.next := by omega
      simp [q1, q2, oB j (by omega) q1, hx])).mono (fun j hj => by
      have hj' : H8.next + 1 <= j := hj
      omega)
   have hBn : H.next < HB.next := by omega
   generalize (HB.push (.cells (strCs s))).set H8.next (.cells [.int .i64 kind, .int .i64 frm, .int .i64 to, .int .u64 view, .int .u64 last, .int .u64 op, .int .u64 commit, w, .sl HB.next 0 1 s.length s.length true]) = HC at *
   generalize HB.next = p at *
   clear hnB mB oB gB hwB ht k9 h9 gr hwG z9 m9 hr9 hrA g1 g2
   generalize H8.next = q at *
   have bad : GetG H (.tuple [.agg msZ, .int .i64 3]) (HC.set H.next (.cells msZ)) := ⟨fun j x hj => by
    have := zaa hw hj
    have q1 : j ≠ H.next := by omega
    simp [q1, h10 j x hj], _, _, rfl, .inr rfl, MsG.zero _ _⟩
   have good : GetG H (.tuple [.agg [.int .i64 kind, .int .i64 frm, .int .i64 to, .int .u64 view, .int .u64 last, .int .u64 op, .int .u64 commit, w, .sl p 0 1 s.length s.length true], .int .i64 0]) (HC.set H.next (.cells [.int .i64 kind, .int .i64 frm, .int .i64 to, .int .u64 view, .int .u64 last, .int .u64 op, .int .u64 commit, w, .sl p 0 1 s.length s.length true])) := ⟨fun j x hj => by
    have := zaa hw hj
    have q1 : j ≠ H.next := by omega
    simp [q1, h10 j x hj], _, _, rfl, .inl rfl, kind, frm, to, view, last, op, commit, w, _, l, s, i1, i2, i3, i4, i5, i6, i7, hG.1, hG.2.1, hsl, rfl, (gr10.keep (fun j x hj hx => by
     have q1 : j ≠ H.next := by omega
     simp [q1, hx])).mono (fun j hj => by omega), .inr ⟨p, rfl, by omega, by
     have q1 : p ≠ H.next := by omega
     simp [q1, b10]⟩⟩
   have z10' := z10
   simp only [msZ] at z10' bad
   refine zab (rdBad_does hr10) ?_
   rintro r h ⟨rfl, rfl⟩
   cases hbd : R9.bad with
   | true =>
     simp [z10']
     exact bad
   | false =>
     simp
     refine zab (rdLeft_does hr10) ?_
     rintro r h ⟨rfl, rfl⟩
     by_cases h0 : R9.b = []
     case neg =>
      have h0' : 0 < R9.b.length := List.length_pos_iff.2 h0
      simp [h0', z10']
      exact bad
     simp [h0, m10, wsc, wcl]
     obtain ⟨u, hu, hru⟩ := res_gr gr10
     have hrb : AV.res h.get 3 (.sl p 0 1 s.length s.length true) = some (bV s) := by
      have tk : List.take (s.length * 1) (List.drop 0 (strCs s)) = strCs s := by rw [Nat.mul_one, List.drop_zero, <- zac, List.take_length]
      rw [res_sl _ _ _ _ _ _ _ _ b10, tk, res_strCs]
      rfl
     have hres : AV.res h.get 4 (.agg [.int .i64 kind, .int .i64 frm, .int .i64 to, .int .u64 view, .int .u64 last, .int .u64 op, .int .u64 commit, w, .sl p 0 1 s.length s.length true]) = some (msV kind frm to view last op commit u (bV s)) := by
      rw [res_agg]
      simp only [List.map_cons, List.map_nil, res_int, hru, hrb, zaw]
      rfl
     refine zab (Does.borrow (.res hres .nil) (good_does i1 i2 i3 i4 i5 i6 i7 hu (by omega) hG.2.1 (.bV s) hsl _) (fun r H1 h => by rw [h]; rfl)) ?_
     rintro r h' ⟨⟨_, rfl⟩, rfl⟩
     cases goodB kind frm to view last op commit l s with
     | false =>
       simp [z10']
       exact bad
     | true =>
       simp [m10, z10', wsc, wcl]
       exact good
def MsF (m : AV) : Prop := ∃ (kind frm to : Int) (view last op commit : Nat) (ev bv : AV) (l : List En) (b : Bs), i64 kind /\ i64 frm /\ i64 to /\ view < 2 ^ 64 /\ last < 2 ^ 64 /\ op < 2 ^ 64 /\ commit < 2 ^ 64 /\ l.length <= 200 /\ (∀ e ∈ l, e.ok) /\ b.length <= 1000000 /\
 m = msV kind frm to view last op commit ev bv /\ EnF ev l /\ BtA bv b
theorem get_does {bv : AV} {b : Bs} (hb : BtA bv b) (hl : b.length <= 1000000) (H : AHeap) : Does Tryz.prog G 51 [bv] H fun r h => (∃ m c, r = .tuple [m, .int .i64 c] /\ (c = 0 \/ c = 3) /\ MsF m) /\ h = H := by
 refine Does.deep (get_run hb hl H) ?_
 rintro hw ha r H1 ⟨hs, m, c, rfl, hc, kind, frm, to, view, last, op, commit, w, bw, l, bs, i1, i2, i3, i4, i5, i6, i7, h1, h2, h3, rfl, h4, h5⟩
 obtain ⟨u, hu, hru⟩ : ∃ u, EnF u l /\ ResV H1.get H.next w u := by
  rcases h4 with ⟨e1, _, rfl⟩ | ⟨p, o, cap, op, pre, junk, rfl, a2, a3, a4, a5, _⟩
  · exact ⟨.nilsl, .inl ⟨rfl, List.length_eq_zero_iff.1 e1⟩, .old rfl⟩
  · refine ⟨.vsl (entsC l) l.length, .inr ⟨[], by simp⟩, .sl a2 a3 ?_⟩
    rw [List.drop_left' a4, List.take_left' a5]
    exact ResL.old (entsC_lt _ _)
 obtain ⟨y, hy, hry⟩ : ∃ y, BtA y bs /\ ResV H1.get H.next bw y := by
  rcases h5 with ⟨rfl, rfl⟩ | ⟨p, rfl, a2, a3⟩
  · exact ⟨.nilsl, .nil, .old rfl⟩
  · refine ⟨bV bs, .bV bs, .sl a2 a3 ?_⟩
    rw [List.drop_zero, Nat.mul_one, <- zac, List.take_length]
    exact ResL.old (strCs_lt _ _)
 refine ⟨.tuple [msV kind frm to view last op commit u y, .int .i64 c], H, .tuple (.cons (.agg (.cons (.old rfl) (.cons (.old rfl) (.cons (.old rfl) (.cons (.old rfl) (.cons (.old rfl) (.cons (.old rfl) (.cons (.old rfl) (.cons hru (.cons hry .nil)))))))))) (.cons (.old rfl) .nil)), rfl, fun i x hi => ⟨hs i x hi, hw i x hi⟩, ⟨_, c, rfl, hc, kind, frm, to, view, last, op, commit, u, y, l, bs, i1, i2, i3, i4, i5, i6, i7, h1, h2, h3, rfl, hu, hy⟩, rfl⟩
theorem coGet_does {H : AHeap} {i : Nat} {cs : List AV} (hi : H.get i = some (.cells (.int .i64 0 :: .int .i64 1 :: cs))) {m : AV} (hm : MsF m) :
  Does Tryz.prog G 52 [.ptr i 0, m] H fun r h => r = .agg [.nilsl, .nilsl] /\ h = H := by
 refine Does.forgot (R := fun r h => r = .agg [.nilsl, .nilsl] /\ ∀ j x, H.get j = some x -> h.get j = some x) ?_ (fun hw ha r H1 ⟨h1, h2⟩ => ⟨h2, by rw [h1]; rfl, h1, rfl⟩)
 refine Does.wf Tryz.call52 fun hw _ => ?_
 obtain ⟨kind, frm, to, view, last, op, commit, ev, bv, l, b, i1, i2, i3, i4, i5, i6, i7, h1, h2, h3, rfl, he, hb⟩ := hm
 have es := he.sc
 have ec := he.cells
 have bs : bv.scalar = true := by rcases hb with ⟨rfl, _⟩ | ⟨ts, rfl⟩ <;> rfl
 have bc : bv.cells = [bv] := by rcases hb with ⟨rfl, _⟩ | ⟨ts, rfl⟩ <;> rfl
 have hin := zaa hw hi
 refine zad Tryz.call52 Tryz.func52 rfl (by simp [Tryz.f52]) ?_
 have hgood := fun H' => Does.borrow (n := 1) (H := H') (.keep _ .nil) (good_does (G := G) i1 i2 i3 i4 i5 i6 i7 he (by omega) h2 hb h3 _) (fun r H1 h => by rw [h]; rfl)
 have hgood : ∀ H', Does Tryz.prog G 97 [msV kind frm to view last op commit ev bv] H' fun y h => y = .bool (goodB kind frm to view last op commit l b) /\ h = H' := fun H' => (hgood H').mono fun y h ⟨⟨_, h1⟩, h2⟩ => ⟨h1, h2⟩
 have hfrom := @goodB_from kind frm to view last op commit l b
 have hmv : msV kind frm to view last op commit ev bv = .agg [.int .i64 kind, .int .i64 frm, .int .i64 to, .int .u64 view, .int .u64 last, .int .u64 op, .int .u64 commit, ev, bv] := rfl
 rw [hmv] at hgood ⊢
 simp [es, ec, bs, bc]
 obtain ⟨HA, hHA⟩ : ∃ HA, HA = ((H.push (.cells [.int .i64 kind, .int .i64 frm, .int .i64 to, .int .u64 view, .int .u64 last, .int .u64 op, .int .u64 commit, ev, bv])).push (.cells [.nilsl, .nilsl])).push (.cells [.nilsl, .nilsl]) := ⟨_, rfl⟩
 rw [<- hHA]
 have q0 : i ≠ H.next := by omega
 have q1 : i ≠ H.next + 1 := by omega
 have q2 : i ≠ H.next + 1 + 1 := by omega
 have q3 : H.next ≠ H.next + 1 := by omega
 have q4 : H.next ≠ H.next + 1 + 1 := by omega
 have q5 : H.next + 1 ≠ H.next + 1 + 1 := by omega
 have g0 : HA.get H.next = some (.cells [.int .i64 kind, .int .i64 frm, .int .i64 to, .int .u64 view, .int .u64 last, .int .u64 op, .int .u64 commit, ev, bv]) := by rw [hHA]; simp [q3, q4]
 have g1 : HA.get (H.next + 1) = some (.cells [.nilsl, .nilsl]) := by rw [hHA]; simp [q5]
 have g2 : HA.get (H.next + 1 + 1) = some (.cells [.nilsl, .nilsl]) := by rw [hHA]; simp
 have gi : HA.get i = some (.cells (.int .i64 0 :: .int .i64 1 :: cs)) := by rw [hHA]; simp [q0, q1, q2, hi]
 have gk : ∀ (X : AObj) j x, H.get j = some x -> (HA.set (H.next + 1) X).get j = some x := fun X j x hj => by
  have := zaa hw hj
  have e0 : j ≠ H.next := by omega
  have e1 : j ≠ H.next + 1 := by omega
  have e2 : j ≠ H.next + 1 + 1 := by omega
  rw [hHA]; simp [e0, e1, e2, hj]
 clear hHA
 refine aw_still zag (by kernel_rfl) ?_
 intro es' hes
 simp [es, ec, bs, bc, g0]
 refine ⟨_, hgood _, ?_⟩
 cases hgb : goodB kind frm to view last op commit l b with
 | false =>
   refine as_go (fun T' => T' 0 = .ptr i 0 /\ T' 3 = .ptr H.next 0 /\ T' 4 = .ptr (H.next + 1) 0 /\ T' 5 = .ptr (H.next + 1 + 1) 0 /\ T' 9 = .bool false) (by simp) ?_
   rintro T1 ⟨t0, t3, t4, t5, t9⟩
   simp (maxSteps := 1000000) [t0, t3, t4, t5, t9, es, ec, bs, bc, g0, gi, g2, g1]
   subst hes
   exact ⟨by kernel_rfl, fun j x hj => by simpa using gk _ j x hj⟩
 | true =>
   have hfr := hfrom hgb
   refine as_go (fun T' => T' 0 = .ptr i 0 /\ T' 3 = .ptr H.next 0 /\ T' 4 = .ptr (H.next + 1) 0 /\ T' 5 = .ptr (H.next + 1 + 1) 0 /\ T' 9 = .bool true) (by simp) ?_
   rintro T1 ⟨t0, t3, t4, t5, t9⟩
   by_cases c1 : to = 0
   case neg =>
    have c1' : (to != 0) = true := by simp [c1]
    simp (maxSteps := 1000000) [t0, t3, t4, t5, t9, es, ec, bs, bc, g0, gi, g2, g1, c1, c1']
    subst hes
    exact ⟨by kernel_rfl, fun j x hj => by simpa using gk _ j x hj⟩
   by_cases c2 : frm = 0
   case pos =>
    simp (maxSteps := 1000000) [t0, t3, t4, t5, t9, es, ec, bs, bc, g0, gi, g2, g1, c1, c2]
    subst hes
    exact ⟨by kernel_rfl, fun j x hj => by simpa using gk _ j x hj⟩
   have c2' : (frm == 0) = false := by simp [c2]
   have c3 : 1 <= frm := by omega
   simp (maxSteps := 1000000) [t0, t3, t4, t5, t9, es, ec, bs, bc, g0, gi, g2, g1, c1, c2, c2', c3]
   subst hes
   exact ⟨by kernel_rfl, fun j x hj => by simpa using gk _ j x hj⟩
theorem al_core {H : AHeap} {O : Nat -> Prop} {r k : Nat} {lives : Int} {xs : List Int} (hA : AlAt H O r k lives xs) (hl : xs.length <= 20) : ∃ ci lv a2 a3 a6 a7 a8 a9 a10 c2 c3 c4 c5 c7 c10 c11, ∃ bytes : Int,
  H.get r = some (.cells [.ptr ci 0, .ptr k 0, c2, c3, c4, c5, .int .i64 bytes, c7, .int .i64 xs.length, entsV (ents 1 xs), c10, c11, .int .i64 lives, .bool false]) /\ bytes <= 100000 /\ r ≠ ci /\
  H.get ci = some (.cells [.int .i64 0, .int .i64 1, a2, a3, lv, .int .i64 xs.length, a6, a7, a8, a9, a10]) /\ EnF lv (ents 1 xs) := by
 obtain ⟨ci, g, hh, m, q, pI, cap, opI, op, gl, ag, ov, dv, b, B, hr, hc, hlk, hp, hS, hf, hb, hB, hxs, rfl⟩ := hA
 simp only [rpV] at hr
 have hby := (texts_le (R := recA xs) (i := 0) (by have := recA_len xs; omega) (recA_le (by omega) hxs)).1
 have hrl := recA_len xs
 have len : ∀ {a b : List AV}, a.length ≠ b.length -> AObj.cells a ≠ AObj.cells b := fun {a b} hl e => hl (by cases e; rfl)
 have ne : ∀ {i j : Nat} {a b : AObj}, H.get i = some a -> H.get j = some b -> a ≠ b -> i ≠ j := fun {i j a b} ha hb hab e => by
  rw [e, hb] at ha; exact hab (Option.some.inj ha).symm
 by_cases h0 : xs = []
 · rw [if_pos (by simpa using h0)] at hc
   obtain ⟨⟨c1, _⟩, he⟩ := hc
   subst h0
   simp only [core0] at c1
   exact ⟨ci, _, _, _, _, _, _, _, _, _, _, _, _, _, _, _, _, hr, by omega, ne hr c1 (len (by simp)), c1, .inl ⟨rfl, rfl⟩⟩
 · rw [if_neg (by simpa using h0)] at hc
   obtain ⟨c1, _⟩ := hc
   simp only [coC, cL, ents_len] at c1
   exact ⟨ci, _, _, _, _, _, _, _, _, _, _, _, _, _, _, _, _, hr, by omega, ne hr c1 (len (by simp)), c1, EnF.entsV _⟩
theorem do_al {H : AHeap} {O : Nat -> Prop} {r k : Nat} {lives : Int} {xs : List Int} (hA : AlAt H O r k lives xs) (hl : xs.length <= 20) :
  Does Tryz.prog G 43 [.ptr r 0, .agg [.nilsl, .nilsl]] H fun x h => x = .tuple [.nilsl, .int .i64 0] /\ h = H := by
 obtain ⟨ci, lv, a2, a3, a6, a7, a8, a9, a10, c2, c3, c4, c5, c7, c10, c11, bytes, hr, hb, rci, hi, hlv⟩ := al_core hA hl
 have hxs : ∀ e ∈ ents 1 xs, e.l.length <= 1000000 := fun e he => by
  have := (ensm_ents (by omega) (by obtain ⟨ci, g, hh, m, q, pI, cap, opI, op, gl, ag, ov, dv, b, B, hr, hc, hlk, hp, hS, hf, hb, hB, hxs, rfl⟩ := hA; exact hxs) e he).2
  omega
 have hd := do0_does (G := G) hr hb rci hi hlv (by rw [ents_len]; exact Nat.le_refl _) (by rw [ents_len]; omega) hxs (wv := .nilsl) rfl rfl
 rw [List.take_of_length_le (by rw [ents_len]; exact Nat.le_refl _)] at hd
 refine Does.forgot hd ?_
 rintro hw ha x h ⟨rfl, h1, h2⟩
 refine ⟨fun j y hj => ?_, rfl, rfl, rfl⟩
 by_cases e : j = r
 · subst e
   rw [hr] at hj
   cases hj
   exact h1
 · exact h2 j y e hj
theorem rpGet_al {H : AHeap} {O : Nat -> Prop} {r k : Nat} {lives : Int} {xs : List Int} (hA : AlAt H O r k lives xs) (hl : xs.length <= 20) {bv : AV} {b : Bs} (hb : BtA bv b) (hbl : b.length <= 1000000) :
  Does Tryz.prog G 20 [.ptr r 0, bv] H fun x h => (∃ c, x = .tuple [.nilsl, .int .i64 c] /\ (c = 0 \/ c = 3)) /\ h = H := by
 refine Does.forgot (R := fun x h => (∃ c, x = .tuple [.nilsl, .int .i64 c] /\ (c = 0 \/ c = 3)) /\ ∀ j y, H.get j = some y -> h.get j = some y) ?_ (fun hw ha x H1 ⟨⟨c, h1, h2⟩, h3⟩ => ⟨h3, by rw [h1]; rfl, ⟨c, h1, h2⟩, rfl⟩)
 refine Does.wf Tryz.call20 fun hw _ => ?_
 refine zad Tryz.call20 Tryz.func20 rfl (by simp [Tryz.f20]) ?_
 simp
 refine zab (get_does hb hbl _) ?_
 rintro x h ⟨⟨m, c, rfl, hc, hm⟩, rfl⟩
 have hm' := hm
 obtain ⟨kind, frm, to, view, last, op, commit, ev, bw, l, b, i1, i2, i3, i4, i5, i6, i7, h1, h2, h3, hmv, he, hb⟩ := hm'
 have es := he.sc
 have ec := he.cells
 have bs : bw.scalar = true := by rcases hb with ⟨rfl, _⟩ | ⟨ts, rfl⟩ <;> rfl
 have bc : bw.cells = [bw] := by rcases hb with ⟨rfl, _⟩ | ⟨ts, rfl⟩ <;> rfl
 have hmv : m = .agg [.int .i64 kind, .int .i64 frm, .int .i64 to, .int .u64 view, .int .u64 last, .int .u64 op, .int .u64 commit, ev, bw] := hmv
 have kp : ∀ (X : AObj) j y, h.get j = some y -> (h.push X).get j = some y := fun X j y hj => by
  have := zaa hw hj
  have e0 : j ≠ h.next := by omega
  simp [e0, hj]
 have kp' : ∀ (X : AObj) j y, h.get j = some y -> (if j = h.next then some X else h.get j) = some y := fun X j y hj => by
  have := zaa hw hj
  have e0 : j ≠ h.next := by omega
  simp [e0, hj]
 rcases hc with rfl | rfl
 case inr =>
  simp [hmv, es, ec, bs, bc]
  exact kp' _
 simp [hmv, es, ec, bs, bc]
 obtain ⟨HA, hHA⟩ : ∃ HA, HA = h.push (.cells [.int .i64 kind, .int .i64 frm, .int .i64 to, .int .u64 view, .int .u64 last, .int .u64 op, .int .u64 commit, ev, bw]) := ⟨_, rfl⟩
 rw [<- hHA]
 have hA1 : AlAt HA O r k lives xs := hA.keep (fun j y _ hj => by rw [hHA]; exact kp _ j y hj) (by rw [hHA]; simp)
 have hg0 : HA.get h.next = some (.cells [.int .i64 kind, .int .i64 frm, .int .i64 to, .int .u64 view, .int .u64 last, .int .u64 op, .int .u64 commit, ev, bw]) := by rw [hHA]; simp
 have kpA : ∀ j y, h.get j = some y -> HA.get j = some y := fun j y hj => by rw [hHA]; exact kp _ j y hj
 clear hHA kp kp'
 obtain ⟨ci, lv, a2, a3, a6, a7, a8, a9, a10, c2, c3, c4, c5, c7, c10, c11, bytes, hr, hby, rci, hi, hlv⟩ := al_core hA1 hl
 have hdk : ∃ d, DkAt HA k d /\ d.off = false /\ (d.lives != lives) = false := by
  obtain ⟨_, _, _, _, _, _, _, _, _, _, _, _, _, _, _, _, _, ⟨lv, sy, d, g1, g2, g3, g4, g5⟩, _⟩ := hA1
  exact ⟨d, g2, g3.on, by simp [g4]⟩
 obtain ⟨d, hk, hon, hli⟩ := hdk
 refine zab (rpOff_does hk hr) ?_
 rintro x h' ⟨rfl, hx⟩
 rw [hon, hli] at hx ⊢
 simp only [Bool.or_false] at hx ⊢
 rw [set_self hr] at hx
 subst hx
 simp
 refine aw_still zag (by kernel_rfl) ?_
 intro es' hes
 simp [es, ec, bs, bc, hg0, hr]
 have hcg := coGet_does (G := G) hi hm
 rw [hmv] at hcg
 refine ⟨_, hcg, ?_⟩
 refine as_go (fun T' => T' 26 = .agg [.nilsl, .nilsl] /\ T' 20 = .ptr r 0) (by simp) ?_
 rintro T1 ⟨t26, t20⟩
 simp [t26, t20]
 refine ⟨_, do_al hA1 hl, ?_⟩
 refine as_go (fun T' => T' 27 = .tuple [.nilsl, .int .i64 0]) (by simp) ?_
 rintro T2 t27
 simp [t27]
 subst hes
 exact ⟨by kernel_rfl, kpA⟩
theorem rpSubmit_bad {H : AHeap} {O : Nat -> Prop} {r k : Nat} {lives : Int} {xs : List Int} (hA : AlAt H O r k lives xs) {id : Nat} (hid : 0 < id) {l : List Int} {v : AV} {ts : List AV} (hv : v = .nilsl /\ l = [] \/ v = .vsl (ints l ++ ts) l.length) (hl : l.length <= 1000000) (h1 : l.length ≠ 1) :
  Does Tryz.prog G 14 [.ptr r 0, .int .u64 id, v] H fun x h => x = .tuple [.nilsl, .int .i64 1] /\ h = H := by
 obtain ⟨ci, g, hh, m, q, pI, cap, opI, op, gl, ag, ov, dv, b, B, hr, hc, hlk, hp, _⟩ := hA
 simp only [rpV] at hr
 have hid' : ¬ (id : Int) = 0 := by omega
 have hid'' : ¬ id = 0 := by omega
 refine zad Tryz.call14 Tryz.func14 rfl (by simp [Tryz.f14]) ?_
 simp [hid', hid'']
 refine zab (fits_does hr hp hv hl) ?_
 rintro y h ⟨rfl, hh⟩
 subst hh
 simp [h1]
theorem outC_len (l : List (Int × Int × Int × Int)) : (outC l).length = l.length * 3 := by
 induction l with
 | nil => rfl
 | cons e l ih => simp [outC] at ih ⊢; omega
theorem outC_at {l : List (Int × Int × Int × Int)} {i : Nat} {e : Int × Int × Int × Int} (h : l[i]? = some e) (ts : List AV) : ((outC l ++ ts).drop (i * 3)).take 3 = [.int .i64 e.1, .int .u64 e.2.1, .vsl [.int .i64 e.2.2.1, .int .i64 e.2.2.2] 2] := by
 induction l generalizing i with
 | nil => simp at h
 | cons a l ih =>
   cases i with
   | zero =>
     simp only [List.getElem?_cons_zero, Option.some.injEq] at h
     subst h
     simp [outC]
   | succ i =>
     simp only [List.getElem?_cons_succ] at h
     have := ih h
     rw [show (i + 1) * 3 = i * 3 + 3 by omega]
     simpa [outC] using this
theorem outs_does {H : AHeap} {r : Nat} {c0 c1 c2 c3 c4 c5 c6 c7 c8 c9 ov c11 c12 c13 : AV} (hr : H.get r = some (.cells [c0, c1, c2, c3, c4, c5, c6, c7, c8, c9, ov, c11, c12, c13])) {os : List (Int × Int × Int × Int)} {b : Nat -> Prop} (hg : Gr H 3 os.length (outC os) ov b) (hl : os.length <= 1000) :
  Does Tryz.prog G 21 [.ptr r 0] H fun x h => alen Tryz.prog 52 x = some (.int .i64 os.length) := by
 refine Does.wf Tryz.call21 fun hw _ => ?_
 refine zad Tryz.call21 Tryz.func21 rfl (by simp [Tryz.f21]) ?_
 have hal : alen Tryz.prog 52 ov = some (.int .i64 os.length) := hg.alen (e := 59) (by simp)
 have vs := hg.sc
 have vc := hg.cells
 simp [hr, vs, vc, hal, -alen]
 refine zai (fun k T' H' => ∃ i w cs, i + k = os.length /\ (∀ j x, H.get j = some x -> H'.get j = some x) /\ H.next <= H'.next /\ Gr H' 3 i cs w (fun x => H.next <= x) /\ T' 3 = w /\ T' 9 = ov /\ T' 10 = .int .i64 os.length /\ T' 11 = .int .i64 i) os.length ?_ ?_
 · exact ⟨0, .nilsl, [], by simp, fun j x hj => hj, Nat.le_refl _, .inl ⟨rfl, rfl, rfl⟩, by simp, by simp, by simp, by simp⟩
 rintro k T H1 ⟨i, w, cs, hik, hk, hnx, hgw, t3, t9, t10, t11⟩ hw1 _
 by_cases hi : i < os.length
 · have hii : (i : Int) < os.length := by omega
   have wr : IntKind.i64.wrap ((i : Int) + 1) = ((i + 1 : Nat) : Int) := by rw [IntWalk.i64_in _ (by omega)]; omega
   obtain ⟨e, he⟩ : ∃ e, os[i]? = some e := ⟨_, List.getElem?_eq_getElem hi⟩
   rcases hg with ⟨a1, _⟩ | ⟨p, o, cap, op, pre, junk, rfl, a2, a3, a4, a5, a6, a7⟩
   · omega
   have hat := outC_at he junk
   have hd : (pre ++ (outC os ++ junk)).drop (o + i * 3) = (outC os ++ junk).drop (i * 3) := by rw [<- List.drop_drop, List.drop_left' a4]
   have hlo := outC_len os
   have hml : o + i * 3 <= (pre ++ (outC os ++ junk)).length := by
    simp only [List.length_append]; omega
   have hlen : 3 <= (outC os ++ junk).length - i * 3 := by
    simp only [List.length_append]; omega
   have hpk := hk _ _ a3
   generalize hM : pre ++ (outC os ++ junk) = M at *
   generalize hN : outC os ++ junk = N at *
   obtain ⟨x1, x2, x3, x4⟩ := e
   simp only at hat
   have r0 : ¬ H1.next = H1.next + 1 := by omega
   have r1 : ¬ H1.next = H1.next + 1 + 1 := by omega
   have r2 : ¬ H1.next = H1.next + 1 + 1 + 1 := by omega
   have ap : ∀ (g : Nat -> Option AObj) (nx q : Nat), g q = some (.cells []) -> zao Tryz.prog 45 45 g nx (.sl q 0 1 0 0 false) (.vsl [.int .i64 x3, .int .i64 x4] 2) = some (.sl nx 0 1 2 2 true, .new (.cells [.int .i64 x3, .int .i64 x4])) := fun g nx q hq => by simp [hq]
   simp [t3, t9, t10, t11, hi, hii, hpk, hd, hat, hml, hlen, r0, r1, r2, ap, -zao]
   obtain ⟨H2, hH2⟩ : ∃ H2, H2 = ((((H1.push (.cells [.int .i64 x1, .int .u64 x2, .vsl [.int .i64 x3, .int .i64 x4] 2])).push (.cells [])).push (.cells [.int .i64 x3, .int .i64 x4])).set H1.next (.cells [.int .i64 x1, .int .u64 x2, .sl (H1.next + 1 + 1) 0 1 2 2 true])).push (.cells [.int .i64 x1, .int .u64 x2, .sl (H1.next + 1 + 1) 0 1 2 2 true]) := ⟨_, rfl⟩
   rw [<- hH2]
   have old : ∀ j y, H1.get j = some y -> H2.get j = some y := fun j y hj => by
    have := zaa hw1 hj
    have e0 : j ≠ H1.next := by omega
    have e1 : j ≠ H1.next + 1 := by omega
    have e2 : j ≠ H1.next + 1 + 1 := by omega
    have e3 : j ≠ H1.next + 1 + 1 + 1 := by omega
    rw [hH2]; simp [e0, e1, e2, e3, hj]
   have g2 : Gr H2 3 i cs w (fun j => H.next <= j /\ j < H1.next) := ((Gr_lt hgw fun j x => zaa hw1).keep fun j x _ hx => old j x hx).mono fun j hj => ⟨hj.1, hj.2.1⟩
   have hn2 : H2.next = H1.next + 1 + 1 + 1 + 1 := by rw [hH2]; rfl
   have hb2 : H2.get (H1.next + 1 + 1 + 1) = some (.cells [.int .i64 x1, .int .u64 x2, .sl (H1.next + 1 + 1) 0 1 2 2 true]) := by rw [hH2]; simp
   obtain ⟨v', eff, f1, f2, f3, f4⟩ := g2.app elemOut (m := 1) (x := .sl (H1.next + 1 + 1 + 1) 0 3 1 1 false) (news := [.int .i64 x1, .int .u64 x2, .sl (H1.next + 1 + 1) 0 1 2 2 true]) (fun _ _ e => by cases e) rfl (by simp [zaj, hb2]) (by simp) rfl (by omega) (by omega) (by omega) (by omega) (nx := H1.next + 1 + 1 + 1 + 1) (by omega)
   rw [f1]
   simp [t3, t9, t10, t11]
   refine ⟨k - 1, by omega, i + 1, by omega, fun j y hj => ?_, by omega, v', ⟨_, f2.mono fun j hj => by omega⟩, rfl, wr⟩
   have j1 := zaa hw hj
   rw [f3 j (by omega) (by omega)]
   exact old j y (hk j y hj)
 · obtain rfl : i = os.length := by omega
   have := hgw.alen (P := Tryz.prog) (t := 52) (e := 59) (by simp)
   simp [t3, t10, t11]
   exact this
end Go.Proofs.YtekbjlihciedjaaGreatDoor
namespace Go.Proofs.YtekbjlihciedjaaGreatDoor
open Go Go.Abs Go.Rp Go.RowKit
theorem new0_does {G : Nat -> Option AV} (H : AHeap) : Does Tryz.prog G 7 [] H fun r h => r = .ptr H.next 0 /\ h = H.push (.cells disk0) := by
 refine zad Tryz.call7 Tryz.func7 rfl (by simp [Tryz.f7]) ?_
 simp [disk0]
theorem pg_form : ∃ p1 p2 p3 p4 p5 : AV, pgL = [.vsl [.int .i64 2] 1, p1, p2, p3, p4, p5] /\ (p1.scalar = true /\ p2.scalar = true /\ p3.scalar = true /\ p4.scalar = true /\ p5.scalar = true) /\ p1.cells = [p1] /\ p2.cells = [p2] /\ p3.cells = [p3] /\ p4.cells = [p4] /\ p5.cells = [p5] := by
 unfold pgL
 exact ⟨_, _, _, _, _, rfl, ⟨rfl, rfl, rfl, rfl, rfl⟩, rfl, rfl, rfl, rfl, rfl⟩
theorem refuses_law (H : AHeap) (a0 a1 a2 : AV) (s0 : Shp Tryz.prog 8 33 [a0]) (s1 : Shp Tryz.prog 8 45 [a1]) (s2 : Shp Tryz.prog 8 22 [a2]) :
  Does Tryz.prog (Gof tab) 5 [a0, a1, a2] H fun r _ => r = .bool true := by
 refine Does.wf Tryz.call5 fun hw _ => ?_
 obtain ⟨n, c, hn, hwf, harr⟩ := shp_ints (e := 2) (by simp) (by simp) s0
 obtain ⟨xs, hxs⟩ : ∃ xs : List Int, xs = (List.range n).map c := ⟨_, rfl⟩
 have hxl : xs.length = n := by rw [hxs]; simp
 have hxi : ∀ v ∈ xs, i64 v := fun v hv => by
  rw [hxs] at hv
  obtain ⟨j, _, rfl⟩ := List.mem_map.1 hv
  have := hwf j
  simp [Lit.wf] at this
  have e1 : IntKind.i64.min = -9223372036854775808 := rfl
  have e2 : IntKind.i64.max = 9223372036854775807 := rfl
  unfold i64
  omega
 have hav : (n = 0 /\ a0 = .nilsl) \/ a0 = .vsl (ints xs) n := by
  rcases harr with h | h
  · exact .inl h
  · refine .inr ?_
    rw [h, hxs]
    simp [ints, Function.comp]
 have al : alen Tryz.prog 33 a0 = some (.int .i64 n) := by rcases hav with ⟨rfl, rfl⟩ | rfl <;> simp [alen]
 have as1 : a0.scalar = true := by rcases hav with ⟨_, rfl⟩ | rfl <;> rfl
 have as2 : a0.cells = [a0] := by rcases hav with ⟨_, rfl⟩ | rfl <;> rfl
 obtain ⟨n1, d1, hn1, _, harr1⟩ := shp_ints (e := 2) (by simp) (by simp) s1
 obtain ⟨ys, hys⟩ : ∃ ys : List Int, ys = (List.range n1).map d1 := ⟨_, rfl⟩
 have hyl : ys.length = n1 := by rw [hys]; simp
 have hyv : (a1 = .nilsl /\ ys = []) \/ a1 = .vsl (ints ys ++ []) ys.length := by
  rcases harr1 with ⟨h, h'⟩ | h
  · exact .inl ⟨h', by rw [hys, h]; rfl⟩
  · refine .inr ?_
    rw [h, hyl, hys]
    simp [ints, Function.comp]
 have al1 : alen Tryz.prog 45 a1 = some (.int .i64 ys.length) := by
  rcases hyv with ⟨rfl, h⟩ | rfl
  · simp [alen, h]
  · simp [alen]
 have b1s : a1.scalar = true := by rcases hyv with ⟨rfl, _⟩ | rfl <;> rfl
 have b1c : a1.cells = [a1] := by rcases hyv with ⟨rfl, _⟩ | rfl <;> rfl
 clear harr1 hys hyl
 obtain ⟨bs, hbs⟩ := shp_bytes (e := 5) (by simp) (by simp) s2
 have al2 : alen Tryz.prog 22 a2 = some (.int .i64 bs.length) := by rcases hbs with ⟨rfl, rfl⟩ | ⟨ts, rfl⟩ <;> simp [alen]
 have b2s : a2.scalar = true := by rcases hbs with ⟨rfl, _⟩ | ⟨ts, rfl⟩ <;> rfl
 have b2c : a2.cells = [a2] := by rcases hbs with ⟨rfl, _⟩ | ⟨ts, rfl⟩ <;> rfl
 obtain ⟨p1, p2, p3, p4, p5, hpg, ⟨q1, q2, q3, q4, q5⟩, c1, c2, c3, c4, c5⟩ := pg_form
 refine zad Tryz.call5 Tryz.func5 rfl (by simp [Tryz.f5]) ?_
 simp
 refine zab (rawake H) ?_
 rintro x h ⟨rfl, hh⟩
 subst hh
 by_cases c0 : 20 < n
 · have c0' : (20 : Int) < n := by omega
   simp [al, c0, c0', -alen]
 have c0' : ¬ (20 : Int) < n := by omega
 by_cases c6 : 30 < ys.length
 · have c6' : (30 : Int) < ys.length := by omega
   simp [al, al1, c0, c0', c6, c6', -alen]
 have c6' : ¬ (30 : Int) < ys.length := by omega
 by_cases c7 : 300 < bs.length
 · have c7' : (300 : Int) < bs.length := by omega
   simp [al, al1, al2, c0, c0', c6, c6', c7, c7', -alen]
 have c7' : ¬ (300 : Int) < bs.length := by omega
 simp [al, al1, al2, c0, c0', c6, c6', c7, c7', -alen]
 refine zae (new0_does h) ?_
 rintro x g1 ⟨rfl, hg1⟩ hw1 _
 have hk1 : g1.get h.next = some (.cells disk0) := by rw [hg1]; simp
 have n1 : g1.next = h.next + 1 := by rw [hg1]; rfl
 clear hg1
 generalize h.next = k at *
 simp
 refine zab (rcounter _) ?_
 rintro x g2 ⟨rfl, hh⟩
 subst hh
 simp
 refine zab (rprogram _) ?_
 rintro x g3 ⟨rfl, hh⟩
 subst hh
 rw [hpg]
 simp [q1, q2, q3, q4, q5, c1, c2, c3, c4, c5]
 rw [<- hpg]
 obtain ⟨pc, hpc⟩ : ∃ pc, pc = g3.next := ⟨_, rfl⟩
 obtain ⟨g4, hg4⟩ : ∃ g4, g4 = g3.push (.cells pgL) := ⟨_, rfl⟩
 rw [<- hg4]
 have hkn := zaa hw1 hk1
 have hk4 : g4.get k = some (.cells disk0) := by
  have : k ≠ g3.next := by omega
  rw [hg4]; simp [this, hk1]
 have hp4 : g4.get pc = some (.cells pgL) := by rw [hg4, hpc]; simp
 have n4 : g4.next = pc + 1 := by rw [hg4, hpc]; rfl
 clear hg4
 refine zae (open_fresh hk4) ?_
 rintro x g5 ⟨r, rfl, hr, hA, hkeep⟩ hw5 _
 have hp5 := hkeep _ _ (by omega) hp4
 simp
 refine zai (fun m T' H' => ∃ i O, i + m = n /\ AlAt H' O r k 1 (xs.take i) /\ ¬ O pc /\ H'.get pc = some (.cells pgL) /\ T' 0 = a0 /\ T' 1 = a1 /\ T' 2 = a2 /\ T' 9 = .ptr r 0 /\ T' 11 = .int .i64 i) n ?_ ?_
 · refine ⟨0, _, by omega, by simpa using hA, by omega, hp5, ?_, ?_, ?_, ?_, ?_⟩ <;> simp [hpc]
 clear hA hkeep hp5 hw5 hk1 hk4 hw1 hp4 n4 hpc n1 hkn hr
 rintro m T H1 ⟨i, O, him, hA, hO, hpc, t0, t1, t2, t9, t11⟩ hw1 _
 have hpn := zaa hw1 hpc
 by_cases hi : i < n
 · have hii : (i : Int) < n := by omega
   have hav : a0 = .vsl (ints xs) n := by
    rcases hav with ⟨h, _⟩ | h
    · omega
    · exact h
   obtain ⟨x, hx⟩ : ∃ x, xs[i]? = some x := ⟨_, List.getElem?_eq_getElem (by omega)⟩
   have hxm := List.mem_of_getElem? hx
   have hix : (ints xs)[i]? = some (.int .i64 x) := by simp [ints, hx]
   have hil : i < (ints xs).length := by rw [zaS]; omega
   have hgx : (ints xs)[i]'hil = .int .i64 x := (List.getElem?_eq_some_iff.1 hix).2
   have htk : xs.take (i + 1) = xs.take i ++ [x] := by rw [List.take_add_one, hx]; rfl
   have hti : (xs.take i).length = i := by rw [List.length_take]; omega
   have w1 : IntKind.i64.wrap ((i : Int) + 1) = ((i + 1 : Nat) : Int) := by rw [IntWalk.i64_in _ (by omega)]; omega
   have w2 : IntKind.u64.wrap ((i + 1 : Nat) : Int) = ((i + 1 : Nat) : Int) := IntWalk.u64_in _ (by omega)
   have w3 : IntKind.u64.wrap ((i : Int) + 1) = (i : Int) + 1 := by rw [IntWalk.u64_in _ (by omega)]
   have w4 : IntKind.i64.wrap ((i : Int) + 1) = (i : Int) + 1 := by rw [w1]; omega
   rw [hav] at t0
   generalize hIX : ints xs = IX at *
   simp [t0, t1, t2, t9, t11, hi, hii, hil, hgx, hix, w3, w4]
   have hrn : r < H1.next := by
    obtain ⟨ci, g, hh, m', q', pI, cap, opI, op, gl, ag, ov, dv, b, B, h1, _⟩ := hA
    exact zaa hw1 h1
   have old : ∀ j y, H1.get j = some y -> ((H1.push (.cells [.int .i64 x])).frz H1.next [.int .i64 x]).get j = some y := fun j y hj => frz_old1 hw1 (Nat.le_refl _) hj (by
    have := zaa hw1 hj
    have : j ≠ H1.next := by omega
    simp [this, hj])
   have hA2 : AlAt ((H1.push (.cells [.int .i64 x])).frz H1.next [.int .i64 x]) O r k 1 (xs.take i) := hA.keep (fun j y _ hj => old j y hj) (by simp [AHeap.frz])
   have hsub := rpSubmit_one (G := Gof tab) zaF hA2 (hxi x hxm) (by omega) (ts := [])
   rw [hti] at hsub
   have hsub2 := Does.lend (H := H1.push (.cells [.int .i64 x])) (i := H1.next) (cs := [.int .i64 x]) (args := [.ptr r 0, .int .u64 ((i : Int) + 1), .sl H1.next 0 1 1 1 false]) (by simp) (by
    have e : List.map (AV.frz H1.next [.int .i64 x]) [.ptr r 0, .int .u64 ((i : Int) + 1), .sl H1.next 0 1 1 1 false] = [.ptr r 0, .int .u64 ((i + 1 : Nat) : Int), .vsl (ints [x] ++ []) 1] := by
     have : r ≠ H1.next := by omega
     simp [AV.frz, this, ints]
    rw [e]; exact hsub)
   refine zab hsub2 ?_
   rintro y h ⟨rfl, hA3, hk3⟩
   simp [t0, t1, t2, t9, t11, w4]
   refine ⟨m - 1, by omega, i + 1, by omega, _, by rw [htk]; exact hA3, ?_, hk3 _ _ hO (old _ _ hpc), hav.symm, by omega⟩
   rintro (h' | h')
   · exact hO h'
   · simp [AHeap.frz] at h'
     omega
 · obtain rfl : i = n := by omega
   simp [t0, t1, t2, t9, t11, al, -alen]
   have hti : xs.take i = xs := List.take_of_length_le (by omega)
   rw [hti] at hA
   have hrn : r < H1.next := by
    obtain ⟨ci, g, hh, m', q', pI, cap, opI, op, gl, ag, ov, dv, b, B, h1, _⟩ := hA
    exact zaa hw1 h1
   by_cases c1 : ys.length = 1
   case' neg =>
    have c1' : ((ys.length : Int) == 1) = false := by simp; omega
    simp [al1, c1, c1', t0, t1, t2, t9, t11, -alen]
    refine zae (rpSubmit_bad (id := 1000) hA (by decide) hyv (by omega) c1) ?_
    rintro y h ⟨rfl, hh⟩ hwh _
    have hA2 : AlAt h O r k 1 xs := by rw [hh]; exact hA
    clear hh
   case' pos =>
    obtain ⟨y, rfl⟩ : ∃ y, ys = [y] := List.length_eq_one_iff.1 c1
    have hy1 : a1 = .vsl [.int .i64 y] 1 := by
     rcases hyv with ⟨_, h⟩ | h
     · simp at h
     · rw [h]; simp [ints]
    subst hy1
    simp [t0, t1, t2, t9, t11]
    obtain ⟨HB, hHB⟩ : ∃ HB, HB = (((H1.push (.cells [])).push (.cells [.int .i64 y])).push (.cells [.int .i64 0])).kill (H1.next + 1) := ⟨_, rfl⟩
    rw [<- hHB]
    have nB : HB.next = H1.next + 1 + 1 + 1 := by rw [hHB]; rfl
    have oB : ∀ j z, H1.get j = some z -> (HB.push (.cells [.int .i64 y, .int .i64 0])).get j = some z := fun j z hj => by
     have := zaa hw1 hj
     have e0 : j ≠ H1.next := by omega
     have e1 : j ≠ H1.next + 1 := by omega
     have e2 : j ≠ H1.next + 1 + 1 := by omega
     have e3 : j ≠ HB.next := by omega
     simp only [AHeap.get_push, if_neg e3]
     rw [hHB]; simp [e0, e1, e2, hj]
    clear hHB
    rw [<- nB]
    have hA1 : AlAt ((HB.push (.cells [.int .i64 y, .int .i64 0])).frz HB.next [.int .i64 y, .int .i64 0]) O r k 1 xs := hA.keep (fun j z _ hj => frz_old1 hw1 (by omega) hj (oB j z hj)) (by simp [AHeap.frz]; omega)
    have hsub := rpSubmit_bad (G := Gof tab) (id := 1000) hA1 (by decide) (l := [y, 0]) (v := .vsl (ints [y, 0] ++ []) 2) (ts := []) (.inr rfl) (by simp) (by simp)
    have hsub2 := Does.lend (H := HB.push (.cells [.int .i64 y, .int .i64 0])) (i := HB.next) (cs := [.int .i64 y, .int .i64 0]) (args := [.ptr r 0, .int .u64 1000, .sl HB.next 0 1 2 2 true]) (by simp) (by
     have e : List.map (AV.frz HB.next [.int .i64 y, .int .i64 0]) [.ptr r 0, .int .u64 1000, .sl HB.next 0 1 2 2 true] = [.ptr r 0, .int .u64 ((1000 : Nat) : Int), .vsl (ints [y, 0] ++ []) 2] := by
      have : r ≠ HB.next := by omega
      simp [AV.frz, this, ints]
     rw [e]; exact hsub)
    refine zae hsub2 ?_
    rintro z h ⟨rfl, hh⟩ hwh _
    have hA2 : AlAt h O r k 1 xs := by rw [hh]; exact hA1
    clear hh
   all_goals
    have hget : ∀ (HG : AHeap) (p : Nat) (op : Bool), h.next <= p -> HG.get p = some (.cells (strCs bs)) -> (∀ j y, h.get j = some y -> HG.get j = some y) -> h.next <= HG.next -> Does Tryz.prog (Gof tab) 20 [.ptr r 0, .sl p 0 1 bs.length bs.length op] HG fun x h' => (∃ c, x = .tuple [.nilsl, .int .i64 c] /\ (c = 0 \/ c = 3)) /\ AlAt h' O r k 1 xs := by
     intro HG p op h1 h2 h3 h4
     have hrh : r < h.next := by
      obtain ⟨ci, g, hh, m', q', pI, cap, opI, op, gl, ag, ov, dv, b, B, h1, _⟩ := hA2
      exact zaa hwh h1
     have hA3 : AlAt (HG.frz p (strCs bs)) O r k 1 xs := hA2.keep (fun j z _ hj => frz_old1 hwh h1 hj (h3 j z hj)) (by simpa [AHeap.frz] using h4)
     have hg := rpGet_al (G := Gof tab) hA3 (by omega) (.bV bs) (by omega)
     refine Does.lend h2 ?_
     have tk : List.take bs.length (strCs bs) = strCs bs := by rw [<- zac, List.take_length]
     have e : List.map (AV.frz p (strCs bs)) [.ptr r 0, .sl p 0 1 bs.length bs.length op] = [.ptr r 0, bV bs] := by
      have : r ≠ p := by omega
      simp [AV.frz, this, bV, tk]
     rw [e]
     exact hg.mono fun x h' ⟨h5, h6⟩ => ⟨h5, by rw [h6]; exact hA3⟩
    by_cases hb0 : bs = []
    case' pos =>
     have ap : ∀ (g : Nat -> Option AObj) (nx q : Nat), g q = some (.cells []) -> zao Tryz.prog 22 22 g nx (.sl q 0 1 0 0 false) a2 = some (.sl q 0 1 0 0 false, .put q (.cells [])) := fun g nx q hq => by
      rcases hbs with ⟨rfl, _⟩ | ⟨ts, rfl⟩
      · simp [hq]
      · simp [hq, hb0]
     simp [t0, t1, t2, t9, t11, ap, -zao]
     have hg := hget (h.push (.cells [])) h.next false (Nat.le_refl _) (by simp [hb0, strCs]) (fun j y hj => by
      have := zaa hwh hj
      have e0 : j ≠ h.next := by omega
      simp [e0, hj]) (by simp)
     rw [hb0] at hg
    case' neg =>
     have hb1 : 0 < bs.length := List.length_pos_iff.2 hb0
     have ap : ∀ (g : Nat -> Option AObj) (nx q : Nat), g q = some (.cells []) -> zao Tryz.prog 22 22 g nx (.sl q 0 1 0 0 false) a2 = some (.sl nx 0 1 bs.length bs.length true, .new (.cells (strCs bs))) := fun g nx q hq => by
      rcases hbs with ⟨rfl, h'⟩ | ⟨ts, rfl⟩
      · exact absurd h' hb0
      · have tk : List.take bs.length (strCs bs ++ ts) = strCs bs := List.take_left' (zac bs)
        have g1 : bs.length <= (strCs bs).length + ts.length := by rw [zac]; omega
        have g2 : ∀ x ∈ strCs bs, x.scalar = true := fun x hx => by
         obtain ⟨b, _, rfl⟩ := List.mem_map.1 hx
         rfl
        have g3 : bs.length <= 140737488355328 /\ bs.length <= 4611686018427387904 := by omega
        simp [hq, tk, g1, g3, hb0, zac]
        exact g2
     simp [t0, t1, t2, t9, t11, ap, -zao]
     have hg := hget ((h.push (.cells [])).push (.cells (strCs bs))) (h.next + 1) true (by omega) (by simp) (fun j y hj => by
      have := zaa hwh hj
      have e0 : j ≠ h.next := by omega
      have e1 : j ≠ h.next + 1 := by omega
      simp [e0, e1, hj]) (by simp; omega)
    all_goals
     refine zae hg ?_
     rintro x h3 ⟨⟨c, rfl, hc⟩, hA3⟩ hw3 _
     obtain ⟨ci, g, hh, m', q', pI, cap, opI, op, gl, ag, ov, dv, b, B, hr3, _, _, _, ⟨_, _, _, _, os, ds, bo, bd, _, gO, _⟩, _, _, _, _, rfl⟩ := hA3
     simp only [rpV] at hr3
     have hos : os.length = xs.length := by
      rcases gO with ⟨e1, e2, _⟩ | ⟨_, _, _, _, _, _, _, _, _, _, e2, _⟩
      · have := outC_len os; rw [e2] at this; simp at this; omega
      · rw [outC_len] at e2; omega
     rw [<- hos] at gO
     have hin := inputs_does (G := Gof tab) (EnF.entsV (ents 1 xs)) (by rw [ents_len]; omega) (fun e he => by
      have := (ensm_ents (by omega) hxi e he).2
      omega) hr3
     have hc1 : (c == 3 || c == 0) = true := by rcases hc with rfl | rfl <;> rfl
     rcases hc with rfl | rfl
     all_goals
      simp [t0, t1, t2, t9, t11]
      refine zab hin ?_
      rintro y F ⟨⟨hgr, _⟩, hkF⟩
      have hyl := hgr.alen (e := 62) (P := Tryz.prog) (t := 48) (by simp)
      rw [ents_len, hxl] at hyl
      simp [t0, t1, t2, t9, t11, al, hyl, -alen]
      refine zab (outs_does (hkF _ _ hr3) (gO.keep fun j z _ hz => hkF j z hz) (by omega)) ?_
      rintro z F2 hz
      rw [hos, hxl] at hz
      simp [t0, t1, t2, t9, t11, al, hz, -alen]
end Go.Proofs.YtekbjlihciedjaaGreatDoor
