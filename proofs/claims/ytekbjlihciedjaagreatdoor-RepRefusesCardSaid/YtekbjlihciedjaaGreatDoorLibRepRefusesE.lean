/-
  Own library of this claim, part 5: texts one behind the other.
-/
import Derived.Test.YtekbjlihciedjaaGreatDoorLibRepRefusesD
set_option maxRecDepth 100000
set_option maxHeartbeats 8000000
set_option linter.unusedVariables false
set_option linter.unusedSimpArgs false
namespace Go.Proofs.YtekbjlihciedjaaGreatDoor
open Go Go.Abs Go.Rp
variable {G : Nat -> Option AV}
theorem step0_does {H : AHeap} {r ci : Nat} {c1 c2 c3 c4 c5 c6 c7 c9 c10 c11 c12 c13 : AV} {a0 a1 a2 a3 a6 a7 a8 a9 a10 lv : AV} {l : List En} {n : Nat}
  (hr : H.get r = some (.cells [.ptr ci 0, c1, c2, c3, c4, c5, c6, c7, .int .i64 n, c9, c10, c11, c12, c13])) (hi : H.get ci = some (.cells [a0, a1, a2, a3, lv, .int .i64 n, a6, a7, a8, a9, a10])) (hlv : EnF lv l) (hn : n <= l.length) (hl : l.length <= 1000000) (hrw : ∀ e ∈ l, e.l.length <= 1000000) :
  Does Tryz.prog G 40 [.ptr r 0] H fun x h => x = .tuple [] /\ h = H.set r (.cells [.ptr ci 0, c1, c2, c3, c4, c5, c6, c7, .int .i64 n, entsV (l.take n), c10, c11, c12, c13]) := by
 refine zad Tryz.call40 Tryz.func40 rfl (by simp [Tryz.f40]) ?_
 have hv := EnF.entsV (l.take n)
 have vs := hv.sc
 have vc := hv.cells
 have vl : alen Tryz.prog 48 (entsV (l.take n)) = some (.int .i64 n) := by
  rw [hv.alen (e := 62) (by simp), List.length_take, Nat.min_eq_left hn]
 simp [hr]
 refine zab (committed_does hi hlv hn hl hrw) ?_
 rintro x h ⟨rfl, rfl⟩
 simp [hr, vs, vc]
 obtain ⟨V, hV⟩ : ∃ V, V = entsV (l.take n) := ⟨_, rfl⟩
 rw [<- hV] at vs vc vl
 refine zai (fun m T' H' => H' = h.set r (.cells [.ptr ci 0, c1, c2, c3, c4, c5, c6, c7, .int .i64 n, V, c10, c11, c12, c13]) /\ T' 0 = .ptr r 0) 0 ?_ ?_
 · exact ⟨by rw [hV], by simp⟩
 rintro m T H1 ⟨rfl, t0⟩ hw1 _
 simp
 refine zam [(3, 0), (7, 0)] zag (by kernel_rfl) ?_
 intro es hes
 simp [t0, vl, -alen]
 refine ⟨by subst hes; exact ⟨by kernel_rfl, by kernel_rfl⟩, by simp [rds, heapF], ?_⟩
 exact hV ▸ rfl
theorem do0_does {H : AHeap} {r ci : Nat} {bytes : Int} {wv : AV} {c1 c2 c3 c4 c5 c7 c9 c10 c11 c12 : AV} {a0 a1 a2 a3 a6 a7 a8 a9 a10 lv : AV} {l : List En} {n : Nat}
  (hr : H.get r = some (.cells [.ptr ci 0, c1, c2, c3, c4, c5, .int .i64 bytes, c7, .int .i64 n, c9, c10, c11, c12, .bool false])) (hb : bytes <= 100000) (hrc : r ≠ ci) (hi : H.get ci = some (.cells [a0, a1, a2, a3, lv, .int .i64 n, a6, a7, a8, a9, a10])) (hlv : EnF lv l) (hn : n <= l.length) (hl : l.length <= 1000000) (hrw : ∀ e ∈ l, e.l.length <= 1000000) (ws : wv.scalar = true) (wc : wv.cells = [wv]) :
  Does Tryz.prog G 43 [.ptr r 0, .agg [.nilsl, wv]] H fun x h => x = .tuple [wv, .int .i64 0] /\ h.get r = some (.cells [.ptr ci 0, c1, c2, c3, c4, c5, .int .i64 bytes, c7, .int .i64 n, entsV (l.take n), c10, c11, c12, .bool false]) /\ ∀ j y, j ≠ r -> H.get j = some y -> h.get j = some y := by
 refine Does.wf Tryz.call43 fun hw _ => ?_
 have hrn := zaa hw hr
 have hin := zaa hw hi
 have q1 : r ≠ H.next := by omega
 have q2 : ci ≠ H.next := by omega
 have hb' : ¬ (100000 : Int) < bytes := by omega
 refine zad Tryz.call43 Tryz.func43 rfl (by simp [Tryz.f43]) ?_
 simp [ws, wc]
 refine zab keep0_does ?_
 rintro x h ⟨rfl, rfl⟩
 simp
 refine zab (rpTell_does (by simp [q1]; exact hr) 0) ?_
 rintro x h ⟨rfl, rfl⟩
 simp
 refine zab (step0_does (if_pos rfl) (by simp [q2, hrc.symm]; exact hi) hlv hn hl hrw) ?_
 rintro x h ⟨rfl, rfl⟩
 simp [hb', q1.symm, ws, wc]
 intro j y hj hy
 have := zaa hw hy
 have p1 : j ≠ H.next := by omega
 simp [hj, p1, hy]
structure RpAt (H : AHeap) (O : Nat -> Prop) (r ci k pI : Nat) (c : Co) (d : Dk) : Prop where
 cells : ∃ c2 c3 cap op c5 bytes c7 c9 c10 c11, H.get r = some (.cells [.ptr ci 0, .ptr k 0, c2, c3, .sl pI 0 1 1 cap op, c5, .int .i64 bytes, c7, .int .i64 c.agreed, c9, c10, c11, .int .i64 d.lives, .bool false]) /\ bytes <= 100000
 ins : H.get pI = some (.cells [.int .i64 2])
 core : CoAt H O ci c
 disk : DkAt H k d
 ro : ¬ O r
 ko : ¬ O k
 po : ¬ O pI
 rk : r ≠ k
 rp : r ≠ pI
 kp : k ≠ pI
 on : d.off = false
 agreed : c.agreed <= c.list.length
 list : c.list.length <= 200
 rows : ∀ e ∈ c.list, e.l.length <= 1000000
theorem unzig_i64 {u : Nat} (h : u < 2 ^ 64) : i64 (unzig u) := by
 unfold unzig i64
 split <;> omega
theorem rdIs_i64 : ∀ (k : Nat) (r : Rd), ∀ v ∈ (rdIs k r).1, i64 v
 | 0, _, v, h => by simp [rdIs] at h
 | k + 1, r, v, h => by
   simp only [rdIs, List.mem_cons] at h
   rcases h with rfl | h
   · exact unzig_i64 (rdU_lt r).1
   · exact rdIs_i64 k _ v h
theorem rdIs_len : ∀ (k : Nat) (r : Rd), (rdIs k r).1.length = k
 | 0, _ => rfl
 | k + 1, r => by simp [rdIs, rdIs_len k]
def pgL : List AV := [.vsl [.int .i64 2] 1,.vsl [.int .i64 2,.int .i64 2] 2,.vsl [.int .i64 2,.int .i64 2,.int .i64 2,.int .i64 2,.int .i64 2,.int .i64 1,.int .i64 2,.int .i64 2,.int .i64 2,.int .i64 2,.int .i64 2,.int .i64 1,.int .i64 2,.int .i64 2,.int .i64 1] 15,.vsl [.int .i64 2,.int .i64 1,.int .i64 2,.int .i64 1] 4,.vsl [.int .i64 0,.int .i64 1] 2,.vsl [.int .i64 2,.int .i64 4,.int .i64 0,.int .i64 0,.int .i64 2,.int .i64 5,.int .i64 1,.int .i64 0,.int .i64 2,.int .i64 10,.int .i64 2,.int .i64 0,.int .i64 2,.int .i64 11,.int .i64 3,.int .i64 0,.int .i64 4,.int .i64 0,.int .i64 0,.int .i64 0,.int .i64 0,.int .i64 3,.int .i64 0,.int .i64 0,.int .i64 19,.int .i64 9,.int .i64 5,.int .i64 0,.int .i64 1,.int .i64 6,.int .i64 4,.int .i64 0,.int .i64 20,.int .i64 10,.int .i64 0,.int .i64 0,.int .i64 1,.int .i64 6,.int .i64 3,.int .i64 0,.int .i64 8,.int .i64 7,.int .i64 0,.int .i64 6,.int .i64 1,.int .i64 1,.int .i64 7,.int .i64 0,.int .i64 0,.int .i64 8,.int .i64 1,.int .i64 0,.int .i64 0,.int .i64 9,.int .i64 0,.int .i64 0,.int .i64 19,.int .i64 17,.int .i64 11,.int .i64 0,.int .i64 1,.int .i64 12,.int .i64 10,.int .i64 0,.int .i64 20,.int .i64 18,.int .i64 0,.int .i64 0,.int .i64 1,.int .i64 12,.int .i64 9,.int .i64 0,.int .i64 8,.int .i64 13,.int .i64 8,.int .i64 12,.int .i64 1,.int .i64 2,.int .i64 13,.int .i64 0,.int .i64 3,.int .i64 0,.int .i64 1,.int .i64 0,.int .i64 3,.int .i64 2,.int .i64 2,.int .i64 0,.int .i64 0,.int .i64 14,.int .i64 1,.int .i64 0,.int .i64 3,.int .i64 1,.int .i64 14,.int .i64 0,.int .i64 3,.int .i64 3,.int .i64 14,.int .i64 0,.int .i64 5,.int .i64 0,.int .i64 1,.int .i64 0,.int .i64 5,.int .i64 1,.int .i64 2,.int .i64 0] 27]
noncomputable def addS (x a : Int) (b : Bool) : Int := fwrap .i64 (iadd x (bif b then a else 0))
def memI (a c : Int) (b1 b2 : Bool) : List Int := [a, bif b1 then 1 else 0, c, bif b2 then 1 else 0]
theorem mixedM : Tryz.prog.follows .mixedOrders = true := by kernel_rfl
theorem plainM : plainFn Tryz.prog = true := by kernel_rfl
theorem step_raw (op b1 b2 : Bool) (t a c x : Int) :
  Does Tryz.prog G 75 [.ptr 0 0, .vsl [.int .i64 x] 1] (AHeap.ofList [.cells (pgL ++ [.sl 1 0 1 4 4 op, .int .i64 t]), .cells (ints (memI a c b1 b2))]) fun r H =>
   r = .tuple [.vsl [.int .i64 (addS x a b1), .int .i64 (addS 1 c b2)] 2, .int .i64 0] /\ H = AHeap.ofList [.cells (pgL ++ [.sl 1 0 1 4 4 op, .int .i64 (fwrap .i64 (iadd t 1))]), .cells (ints (memI (addS x a b1) (addS 1 c b2) true true))] := by
 cases op <;> cases b1 <;> cases b2 <;> exact tick_does (ov := noOv) (fuel := 100000) (n := 300) mixedM plainM (noOv_good _ _) rfl (by kernel_rfl) (fun Q => by kernel_rfl)
theorem addS_i64 (x a : Int) (b : Bool) : i64 (addS x a b) := by
 unfold addS i64
 rw [fwrap_eq, iadd_eq, IntKind.wrap_i64]
 omega
theorem mstep_does (hG : ∀ g a, G g = some a -> a.idLt 0 = true) {H : AHeap} {m q : Nat} {a c : Int} {b1 b2 : Bool} {t : Nat} {op : Bool} (hm : MacAt H m q pgL (memI a c b1 b2) t op) (x : Int) (ht : t < 4611686018427387904) :
  ∃ h', Does Tryz.prog G 75 [.ptr m 0, .vsl [.int .i64 x] 1] H (fun r h => r = .tuple [.vsl [.int .i64 (addS x a b1), .int .i64 (addS 1 c b2)] 2, .int .i64 0] /\ h = h') /\
    MacAt h' m q pgL (memI (addS x a b1) (addS 1 c b2) true true) (t + 1) op /\ h'.next = H.next /\ ∀ j, j ≠ m -> j ≠ q -> h'.get j = H.get j := by
 obtain ⟨h1, h2, h3, h4, h5, h6, h7⟩ := hm
 obtain ⟨ρ, hρ⟩ : ∃ ρ : Nat -> Nat, ρ = fun i => match i with | 0 => m | _ => q := ⟨_, rfl⟩
 have e0 : ρ 0 = m := by subst hρ; rfl
 have e1 : ρ 1 = q := by subst hρ; rfl
 have hinj : ∀ i j, i < 2 -> j < 2 -> ρ i = ρ j -> i = j := by
  intro i j hi hj e
  have ci : i = 0 \/ i = 1 := by omega
  have cj : j = 0 \/ j = 1 := by omega
  rcases ci with rfl | rfl <;> rcases cj with rfl | rfl
  · rfl
  · rw [e0, e1] at e; exact absurd e h5
  · rw [e0, e1] at e; exact absurd e.symm h5
  · rfl
 have r0 : ∀ op t, AObj.ren ρ (.cells (pgL ++ [.sl 1 0 1 4 4 op, .int .i64 t])) = .cells (pgL ++ [.sl q 0 1 4 4 op, .int .i64 t]) := fun op t => by rw [<- e1]; rfl
 have r1 : ∀ a c b1 b2, AObj.ren ρ (.cells (ints (memI a c b1 b2))) = .cells (ints (memI a c b1 b2)) := fun a c b1 b2 => rfl
 have hp : IsPart (AHeap.ofList [.cells (pgL ++ [.sl 1 0 1 4 4 op, .int .i64 t]), .cells (ints (memI a c b1 b2))]) ρ H := by
  refine ⟨fun i hi => ?_, fun i j hi hj => hinj i j hi hj⟩
  have hi : i < 2 := hi
  have ci : i = 0 \/ i = 1 := by omega
  rcases ci with rfl | rfl
  · exact ⟨_, rfl, by rw [e0, r0]; exact h1⟩
  · exact ⟨_, rfl, by rw [e1, r1]; exact h2⟩
 have hd := tick_part (step_raw (G := G) op b1 b2 t a c x) (Nat.zero_lt_succ 1) rfl (by kernel_rfl) (fun n => rfl) (fun n => rfl) hG hp
 rw [e0] at hd
 have hw : fwrap .i64 (iadd (t : Int) 1) = ((t + 1 : Nat) : Int) := by rw [fwrap_eq, iadd_eq, IntWalk.i64_in _ (by omega)]; omega
 refine ⟨_, hd, ⟨?_, ?_, rfl, rfl, h5, by omega, ?_⟩, rfl, fun j hj hj2 => ?_⟩
 · have := patch_on (H := H) (H1 := AHeap.ofList [.cells (pgL ++ [.sl 1 0 1 4 4 op, .int .i64 (fwrap .i64 (iadd t 1))]), .cells (ints (memI (addS x a b1) (addS 1 c b2) true true))]) (m := 2) hinj (i := 0) (by omega)
   rw [e0] at this
   refine this.trans ?_
   rw [<- hw, <- r0]; rfl
 · have := patch_on (H := H) (H1 := AHeap.ofList [.cells (pgL ++ [.sl 1 0 1 4 4 op, .int .i64 (fwrap .i64 (iadd t 1))]), .cells (ints (memI (addS x a b1) (addS 1 c b2) true true))]) (m := 2) hinj (i := 1) (by omega)
   rw [e1] at this
   refine this.trans ?_
   rw [<- r1]; rfl
 · intro v hv
   simp only [memI, List.mem_cons, List.not_mem_nil, or_false] at hv
   rcases hv with rfl | rfl | rfl | rfl
   · exact addS_i64 _ _ _
   · simp only [cond_true]; unfold i64; omega
   · exact addS_i64 _ _ _
   · simp only [cond_true]; unfold i64; omega
 · refine patch_off fun i hi => ?_
   have hi : i < 2 := hi
   have ci : i = 0 \/ i = 1 := by omega
   rcases ci with rfl | rfl
   · rw [e0]; exact Ne.symm hj
   · rw [e1]; exact Ne.symm hj2
theorem elemOut : ElemOk Tryz.prog 52 52 59 3 40 := ⟨by simp, ⟨.slice 59, by simp, rfl⟩, by simp⟩
theorem elemDig : ElemOk Tryz.prog 84 84 55 32 32 := ⟨by simp, ⟨.slice 55, by simp, rfl⟩, by simp⟩
theorem mstep_zero (hG : ∀ g a, G g = some a -> a.idLt 0 = true) {H : AHeap} (hw : H.Wf) {m q : Nat} {a c : Int} {b1 b2 : Bool} {t : Nat} {op : Bool} (hm : MacAt H m q pgL (memI a c b1 b2) t op) (ht : t < 4611686018427387904) (o : Bool) :
  ∃ h', Does Tryz.prog G 75 [.ptr m 0, .sl H.next 0 1 1 1 o] (H.push (.cells [.int .i64 0])) (fun r h => r = .tuple [.vsl [.int .i64 (addS 0 a b1), .int .i64 (addS 1 c b2)] 2, .int .i64 0] /\ h = h') /\
    MacAt h' m q pgL (memI (addS 0 a b1) (addS 1 c b2) true true) (t + 1) op /\ H.next <= h'.next /\ ∀ j y, j ≠ m -> j ≠ q -> H.get j = some y -> h'.get j = some y := by
 have hmn := zaa hw hm.1
 have hqn := zaa hw hm.2.1
 have k : ∀ j y, H.get j = some y -> ((H.push (.cells [.int .i64 0])).frz H.next [.int .i64 0]).get j = some y := fun j y hj => frz_old1 hw (Nat.le_refl _) hj (by
  have := zaa hw hj
  have : j ≠ H.next := by omega
  simp [this, hj])
 have hm2 : MacAt ((H.push (.cells [.int .i64 0])).frz H.next [.int .i64 0]) m q pgL (memI a c b1 b2) t op := ⟨k _ _ hm.1, k _ _ hm.2.1, hm.2.2⟩
 obtain ⟨h', h1, h2, h3, h4⟩ := mstep_does hG hm2 0 ht
 refine ⟨h', Does.lend (i := H.next) (cs := [.int .i64 0]) (by simp) ?_, h2, ?_, fun j y hj hj2 hy => by rw [h4 j hj hj2]; exact k j y hy⟩
 · have e : List.map (AV.frz H.next [.int .i64 0]) [.ptr m 0, .sl H.next 0 1 1 1 o] = [.ptr m 0, .vsl [.int .i64 0] 1] := by
    have : m ≠ H.next := by omega
    simp [AV.frz, this]
   rw [e]; exact h1
 · rw [h3]; simp [AHeap.frz]
def rpV (ci : Nat) (c1 c2 : AV) (m pI cap : Nat) (op : Bool) (c5 c6 c7 : AV) (s : Nat) (ag ov dv lv dn : AV) : List AV :=
 [.ptr ci 0, c1, c2, .ptr m 0, .sl pI 0 1 1 cap op, c5, c6, c7, .int .i64 s, ag, ov, dv, lv, dn]
def outC (l : List (Int × Int × Int × Int)) : List AV := l.flatMap fun t => [.int .i64 t.1, .int .u64 t.2.1, .vsl [.int .i64 t.2.2.1, .int .i64 t.2.2.2] 2]
theorem outC_snoc (l : List (Int × Int × Int × Int)) (a b c d : Int) : outC (l ++ [(a, b, c, d)]) = outC l ++ [.int .i64 a, .int .u64 b, .vsl [.int .i64 c, .int .i64 d] 2] := by simp [outC]
def StAt (H : AHeap) (m q : Nat) (op : Bool) (s no nd : Nat) (B : Nat -> Prop) (ov dv : AV) : Prop :=
 ∃ a c b1 b2 os ds bo bd, MacAt H m q pgL (memI a c b1 b2) s op /\ Gr H 3 no (outC os) ov bo /\ Gr H 32 nd ds dv bd /\ (∀ x, bo x -> B x) /\ (∀ x, bd x -> B x) /\ (∀ x, bo x -> ¬ bd x) /\ ¬ B m /\ ¬ B q
theorem StAt.keep {H H' : AHeap} {m q : Nat} {op : Bool} {s no nd : Nat} {B : Nat -> Prop} {ov dv : AV} (h : StAt H m q op s no nd B ov dv) (hk : ∀ j y, (j = m \/ j = q \/ B j) -> H.get j = some y -> H'.get j = some y) : StAt H' m q op s no nd B ov dv := by
 obtain ⟨a, c, b1, b2, os, ds, bo, bd, hM, gO, gD, bO, bD, bX, nm, nq⟩ := h
 exact ⟨a, c, b1, b2, os, ds, bo, bd, ⟨hk _ _ (.inl rfl) hM.1, hk _ _ (.inr (.inl rfl)) hM.2.1, hM.2.2⟩, gO.keep fun j x hj hx => hk j x (.inr (.inr (bO j hj))) hx, gD.keep fun j x hj hx => hk j x (.inr (.inr (bD j hj))) hx, bO, bD, bX, nm, nq⟩
theorem StAt.mono {H : AHeap} {m q : Nat} {op : Bool} {s no nd : Nat} {B B' : Nat -> Prop} {ov dv : AV} (h : StAt H m q op s no nd B ov dv) (hB : ∀ x, B x -> B' x) (hm : ¬ B' m) (hq : ¬ B' q) : StAt H m q op s no nd B' ov dv := by
 obtain ⟨a, c, b1, b2, os, ds, bo, bd, hM, gO, gD, bO, bD, bX, nm, nq⟩ := h
 exact ⟨a, c, b1, b2, os, ds, bo, bd, hM, gO, gD, fun x hx => hB x (bO x hx), fun x hx => hB x (bD x hx), bX, hm, hq⟩
def StR (H : AHeap) (r ci : Nat) (c1 c2 : AV) (m q pI cap : Nat) (opI : Bool) (c5 c6 c7 : AV) (op : Bool) (n no nd : Nat) (V lv dn : AV) (B : Nat -> Prop) (h : AHeap) : Prop :=
 ∃ ov dv, h.get r = some (.cells (rpV ci c1 c2 m pI cap opI c5 c6 c7 n V ov dv lv dn)) /\ StAt h m q op n no nd (fun x => B x \/ H.next <= x) ov dv /\ ∀ j y, j ≠ r -> j ≠ m -> j ≠ q -> ¬ B j -> H.get j = some y -> h.get j = some y
theorem step_run (hG : ∀ g a, G g = some a -> a.idLt 0 = true) {H : AHeap} {r ci m q pI cap : Nat} {opI op : Bool} {c1 c2 c5 c6 c7 ag ov dv lvs dn : AV} {a0 a1 a2 a3 a6 a7 a8 a9 a10 lv : AV} {l : List En} {s n no nd : Nat} {B : Nat -> Prop}
  (hr : H.get r = some (.cells (rpV ci c1 c2 m pI cap opI c5 c6 c7 s ag ov dv lvs dn))) (hi : H.get ci = some (.cells [a0, a1, a2, a3, lv, .int .i64 n, a6, a7, a8, a9, a10])) (hlv : EnF lv l) (hn : n <= l.length) (hl : l.length <= 200) (hrw : ∀ e ∈ l, e.l.length <= 1000000)
  (hp : H.get pI = some (.cells [.int .i64 2])) (hS : StAt H m q op s no nd B ov dv) (hs : s <= n) (hno : no <= 1000) (hnd : nd <= 1000) (hBr : ¬ B r) (hBp : ¬ B pI) (hrm : r ≠ m) (hrq : r ≠ q) (hpr : pI ≠ r) (hpm : pI ≠ m) (hpq : pI ≠ q) :
  Does Tryz.prog G 40 [.ptr r 0] H fun x h => x = .tuple [] /\ StR H r ci c1 c2 m q pI cap opI c5 c6 c7 op n (no + (n - s)) (nd + (n - s)) (entsV (l.take n)) lvs dn B h := by
 refine Does.wf Tryz.call40 fun hw _ => ?_
 have hv := EnF.entsV (l.take n)
 have vs := hv.sc
 have vc := hv.cells
 have hln : (l.take n).length = n := by rw [List.length_take, Nat.min_eq_left hn]
 have vl : alen Tryz.prog 48 (entsV (l.take n)) = some (.int .i64 n) := by
  rw [hv.alen (e := 62) (by simp), hln]
 have hcs := fun h0 => hv.cs (h0 : 0 < (l.take n).length)
 rw [hln] at hcs
 have hrn := zaa hw hr
 have hpn := zaa hw hp
 have hmn : m < H.next := by obtain ⟨a, c, b1, b2, os, ds, bo, bd, hM, _⟩ := hS; exact zaa hw hM.1
 have hqn : q < H.next := by obtain ⟨a, c, b1, b2, os, ds, bo, bd, hM, _⟩ := hS; exact zaa hw hM.2.1
 refine zad Tryz.call40 Tryz.func40 rfl (by simp [Tryz.f40]) ?_
 have hr' := hr
 simp only [rpV] at hr'
 simp [hr']
 refine zab (committed_does hi hlv hn (by omega) hrw) ?_
 rintro x h ⟨rfl, rfl⟩
 simp [hr', vs, vc]
 have hre : ∀ e ∈ l.take n, e.l.length <= 1000000 := fun e he => hrw e (List.mem_of_mem_take he)
 obtain ⟨V, hV⟩ : ∃ V, V = entsV (l.take n) := ⟨_, rfl⟩
 rw [<- hV] at vs vc vl hcs ⊢
 generalize l.take n = L at *
 have hn2 : n <= 200 := by omega
 clear hv hV hi hlv hn hl hrw hr'
 refine zai (fun k T' H' => ∃ j ov dv, j + k = n /\ s <= j /\ H'.get r = some (.cells (rpV ci c1 c2 m pI cap opI c5 c6 c7 j V ov dv lvs dn)) /\ StAt H' m q op j (no + (j - s)) (nd + (j - s)) (fun x => B x \/ h.next <= x) ov dv /\
  (∀ j y, j ≠ r -> j ≠ m -> j ≠ q -> ¬ B j -> h.get j = some y -> H'.get j = some y) /\ h.next <= H'.next /\ T' 0 = .ptr r 0) (n - s) ?_ ?_
 · refine ⟨s, ov, dv, by omega, by omega, by simp [rpV], ?_, fun j y hj _ _ _ hy => by simp [hj, hy], by simp, by simp⟩
   simp only [Nat.sub_self, Nat.add_zero]
   refine (hS.mono (fun x hx => .inl hx) (fun hx => ?_) (fun hx => ?_)).keep fun j y hj hy => ?_
   · obtain ⟨a, c, b1, b2, os, ds, bo, bd, hM, gO, gD, bO, bD, bX, nm, nq⟩ := hS
     rcases hx with hx | hx
     · exact nm hx
     · omega
   · obtain ⟨a, c, b1, b2, os, ds, bo, bd, hM, gO, gD, bO, bD, bX, nm, nq⟩ := hS
     rcases hx with hx | hx
     · exact nq hx
     · omega
   · have : j ≠ r := by
      rintro rfl
      rcases hj with hj | hj | hj | hj
      · exact hrm hj
      · exact hrq hj
      · exact hBr hj
      · omega
     simp [this, hy]
 clear hS hr vc
 rintro k T H1 ⟨j, ov, dv, hjk, hsj, hr1, hSt, hk, hHn, t0⟩ hw1 _
 obtain ⟨a, c, b1, b2, os, ds, bo, bd', hM, gO, gD, bO, bD, bX, nm, nq⟩ := hSt
 obtain ⟨bd, hbd⟩ : ∃ bd : Nat -> Prop, bd = fun x => bd' x /\ x < H1.next := ⟨_, rfl⟩
 have gD : Gr H1 32 (nd + (j - s)) ds dv bd := (Gr_lt gD fun j x => zaa hw1).mono fun j hj => by rw [hbd]; exact ⟨hj.1, hj.2.1⟩
 have bD : ∀ x, bd x -> B x \/ h.next <= x := fun x hx => bD x (by rw [hbd] at hx; exact hx.1)
 have bX : ∀ x, bo x -> ¬ bd x := fun x hx hy => bX x hx (by rw [hbd] at hy; exact hy.1)
 have hbN : ∀ x, bd x -> x < H1.next := fun x hx => by rw [hbd] at hx; exact hx.2
 clear hbd
 have ovs := gO.sc
 have ovc := gO.cells
 have dvs := gD.sc
 have dvc := gD.cells
 have hr1' := hr1
 simp only [rpV] at hr1
 simp
 refine zam [(3, 0), (7, 0)] zag (by kernel_rfl) ?_
 intro es hes
 by_cases hj : j < n
 case neg =>
  obtain rfl : j = n := by omega
  simp [t0, hr1, vl, vs, -alen]
  refine ⟨by subst hes; exact ⟨by kernel_rfl, by kernel_rfl⟩, by simp [rds, heapF, hr1], ?_⟩
  exact ⟨ov, dv, hr1', ⟨a, c, b1, b2, os, ds, bo, bd, hM, gO, gD, bO, bD, bX, nm, nq⟩, hk⟩
 have hjj : (j : Int) < n := by omega
 simp [t0, hr1, vl, hjj, hj, -alen]
 refine ⟨by subst hes; exact ⟨by kernel_rfl, by kernel_rfl⟩, by simp [rds, heapF, hr1], ?_⟩
 obtain ⟨C, hVC, hCl, hat⟩ := hcs (by omega)
 obtain ⟨e, he⟩ : ∃ e, L[j]? = some e := ⟨_, List.getElem?_eq_getElem (by omega)⟩
 have hat := hat j e he
 have hee := hre e (List.mem_of_getElem? he)
 have rx := RowA.rowV e.row
 have rxs := rx.sc
 have rxc := rx.cells
 have h3 : 3 <= C.length - j * 3 := by omega
 have hr1n := zaa hw1 hr1
 have q1 : r ≠ H1.next := by omega
 have t0' := t0
 rw [hVC] at hr1
 refine zam [(3, 0), (7, 0), (9, 0)] zag (by kernel_rfl) ?_
 intro es hes
 simp [t0, hr1, hj, hat, h3, rxs, rxc]
 refine ⟨by subst hes; exact ⟨by kernel_rfl, by kernel_rfl⟩, by simp [rds, heapF, hr1], ?_⟩
 clear hes es
 obtain ⟨H2, hH2⟩ : ∃ H2, H2 = H1.push (.cells [.int .u64 e.id, .int .u64 e.view, rowV e.row]) := ⟨_, rfl⟩
 rw [<- hH2]
 have k2 : ∀ x y, H1.get x = some y -> H2.get x = some y := fun x y hx => by
  have := zaa hw1 hx
  have : x ≠ H1.next := by omega
  rw [hH2]; simp [this, hx]
 have n2 : H2.next = H1.next + 1 := by rw [hH2]; rfl
 have he2 : H2.get H1.next = some (.cells [.int .u64 e.id, .int .u64 e.view, rowV e.row]) := by rw [hH2]; simp
 have hp2 := k2 _ _ (hk pI _ hpr hpm hpq hBp hp)
 have hr2 := k2 _ _ hr1
 have hM2 : MacAt H2 m q pgL (memI a c b1 b2) j op := ⟨k2 _ _ hM.1, k2 _ _ hM.2.1, hM.2.2⟩
 have gO2 := gO.keep (H' := H2) fun x y _ hy => k2 x y hy
 have gD2 := gD.keep (H' := H2) fun x y _ hy => k2 x y hy
 clear hH2
 have hrow : rowV e.row = .nilsl /\ e.l = [] \/ rowV e.row = .vsl (ints e.l ++ []) e.l.length := by
  unfold En.l
  cases e.row with
  | none => exact .inl ⟨rfl, rfl⟩
  | some l => exact .inr (by simp [rowV])
 refine zae (fits_does hr2 hp2 hrow hee) ?_
 rintro x h2 ⟨rfl, rfl⟩ hw2 _
 rcases Decidable.em (e.l.length = 1) with h1l | h1l
 case' inl =>
  obtain ⟨x, hx⟩ : ∃ x, e.l = [x] := List.length_eq_one_iff.1 h1l
  have hrv : rowV e.row = .vsl [.int .i64 x] 1 := by
   rcases hrow with ⟨_, hh⟩ | hh
   · rw [hx] at hh; simp at hh
   · rw [hh, hx]; rfl
  obtain ⟨h', d1, hM3, n3a, k3a⟩ := mstep_does hG hM2 x (by omega)
  simp [t0, h1l, hr2, hrv]
  refine zae d1 ?_
  have n3 : h2.next <= h'.next := by omega
  have k3 : ∀ j y, j ≠ m -> j ≠ q -> h2.get j = some y -> h'.get j = some y := fun j y a b hy => by rw [k3a j a b]; exact hy
  clear d1 n3a k3a
  rintro y h3 ⟨rfl, rfl⟩ hw3 _
  obtain ⟨w, y1, y2, hw0, hw00, ws, wc⟩ : ∃ w y1 y2, w = AV.vsl [AV.int .i64 (addS x a b1), AV.int .i64 (addS 1 c b2)] 2 /\ w = AV.vsl [AV.int .i64 y1, AV.int .i64 y2] 2 /\ w.scalar = true /\ w.cells = [w] := ⟨_, _, _, rfl, rfl, rfl, rfl⟩
  rw [<- hw0]
  obtain ⟨a', c', hM4⟩ : ∃ a' c', MacAt h3 m q pgL (memI a' c' true true) (j + 1) op := ⟨_, _, hM3⟩
 case' inr =>
  obtain ⟨h', d1, hM3, n3, k3⟩ := mstep_zero hG hw2 hM2 (by omega) false
  have q2 : r ≠ h2.next := by omega
  simp [t0, h1l, hr2, q2]
  refine zae d1 ?_
  rintro y h3 ⟨rfl, rfl⟩ hw3 _
  obtain ⟨w, y1, y2, hw0, hw00, ws, wc⟩ : ∃ w y1 y2, w = AV.vsl [AV.int .i64 (addS 0 a b1), AV.int .i64 (addS 1 c b2)] 2 /\ w = AV.vsl [AV.int .i64 y1, AV.int .i64 y2] 2 /\ w.scalar = true /\ w.cells = [w] := ⟨_, _, _, rfl, rfl, rfl, rfl⟩
  rw [<- hw0]
  obtain ⟨a', c', hM4⟩ : ∃ a' c', MacAt h3 m q pgL (memI a' c' true true) (j + 1) op := ⟨_, _, hM3⟩
 all_goals
  clear hM3 hw0
  have hm1 : m < H1.next := by omega
  have hq1 : q < H1.next := by omega
  have hr3 := k3 _ _ hrm hrq hr2
  have he3 := k3 _ _ (by omega) (by omega) he2
  have bm : ∀ x, bo x -> x ≠ m /\ x ≠ q /\ x ≠ r := fun x hx => ⟨fun e => nm (e ▸ bO x hx), fun e => nq (e ▸ bO x hx), fun e => by
   rcases bO x hx with h' | h'
   · exact hBr (e ▸ h')
   · omega⟩
  have dm : ∀ x, bd x -> x ≠ m /\ x ≠ q /\ x ≠ r := fun x hx => ⟨fun e => nm (e ▸ bD x hx), fun e => nq (e ▸ bD x hx), fun e => by
   rcases bD x hx with h' | h'
   · exact hBr (e ▸ h')
   · omega⟩
  have gO3 : Gr h3 3 (no + (j - s)) (outC os) ov (fun x => bo x /\ x < H1.next) := ((Gr_lt gO fun j x => zaa hw1).mono (b' := fun x => bo x /\ x < H1.next) fun j hj => ⟨hj.1, hj.2.1⟩).keep fun x y hx hy => k3 x y (bm x hx.1).1 (bm x hx.1).2.1 (k2 x y hy)
  have gD3 : Gr h3 32 (nd + (j - s)) ds dv (fun x => bd x /\ x < H1.next) := ((Gr_lt gD fun j x => zaa hw1).mono (b' := fun x => bd x /\ x < H1.next) fun j hj => ⟨hj.1, hj.2.1⟩).keep fun x y hx hy => k3 x y (dm x hx.1).1 (dm x hx.1).2.1 (k2 x y hy)
  have q3 : r ≠ h3.next := by omega
  have q4 : H1.next ≠ h3.next := by omega
  obtain ⟨ov', eff, f1, f2, f3, f4⟩ := (gO3.keep (H' := h3.push (.cells [.int .i64 j, .int .u64 e.id, w])) fun x y hx hy => by
   have : x ≠ h3.next := by omega
   simp [this, hy]).app elemOut (m := 1) (x := .sl h3.next 0 3 1 1 false) (news := [.int .i64 j, .int .u64 e.id, w]) (fun _ _ e => by cases e) rfl (by simp [zaj]) (by simp [ws]) rfl (by omega) (by omega) (by omega) (by omega) (nx := h3.next + 1) rfl
  simp only [AHeap.next_push] at f2 f3 f4
  have ovs' := f2.sc
  have ovc' := f2.cells
  have ltE := eff_lt (push_lt (fun j x => zaa hw3) (.cells [.int .i64 j, .int .u64 e.id, w])) fun i y e => aappend_put (fun k i e => by cases e) f1 e
  simp
  refine zam [(4, 0), (8, 0), (10, 0)] zag (by kernel_rfl) ?_
  intro es hes
  simp [t0, hr3, he3, ovs, ovc, ws, wc, q3, q4, -zao]
  rw [f1]
  generalize hH4 : h3.push (.cells [.int .i64 j, .int .u64 e.id, w]) = H4 at *
  have hr4 : (H4.eff eff).get r = some (.cells [AV.ptr ci 0, c1, c2, AV.ptr m 0, AV.sl pI 0 1 1 cap opI, c5, c6, c7, AV.int IntKind.i64 ↑j, AV.vsl C n, ov, dv, lvs, dn]) := by
   rw [f3 r (fun h => (bm r h.1).2.2 rfl) (by omega), <- hH4]
   simp [q3, hr3]
  simp [hr4, ovs', ovc']
  refine ⟨by subst hes; exact ⟨by kernel_rfl, by kernel_rfl⟩, by simp [rds, heapF, hr3, he3, ovs, ovc, ws, wc], ?_⟩
  clear hes es
  obtain ⟨H5, hH5⟩ : ∃ H5, H5 = (H4.eff eff).set r (.cells [AV.ptr ci 0, c1, c2, AV.ptr m 0, AV.sl pI 0 1 1 cap opI, c5, c6, c7, AV.int IntKind.i64 ↑j, AV.vsl C n, ov', dv, lvs, dn]) := ⟨_, rfl⟩
  rw [<- hH5]
  have n5 : h3.next < H5.next := by
   rw [hH5]; simp only [AHeap.next_set]; omega
  have k5 : ∀ x y, x ≠ r -> ¬ bo x -> h3.get x = some y -> H5.get x = some y := fun x y hx hb hy => by
   have x1 := zaa hw3 hy
   have x2 : x ≠ h3.next := by omega
   rw [hH5]
   simp only [AHeap.get_set, if_neg hx]
   rw [f3 x (fun h => hb h.1) (by omega), <- hH4]
   simp [x2, hy]
  have hr5 : H5.get r = some (.cells [AV.ptr ci 0, c1, c2, AV.ptr m 0, AV.sl pI 0 1 1 cap opI, c5, c6, c7, AV.int IntKind.i64 ↑j, AV.vsl C n, ov', dv, lvs, dn]) := by rw [hH5]; simp
  have hM5 : MacAt H5 m q pgL (memI a' c' true true) (j + 1) op := ⟨k5 _ _ hrm.symm (fun hx => (bm m hx).1 rfl) hM4.1, k5 _ _ hrq.symm (fun hx => (bm q hx).2.1 rfl) hM4.2.1, hM4.2.2⟩
  have gO5 : Gr H5 3 (no + (j - s) + 1) (outC os ++ [.int .i64 j, .int .u64 e.id, w]) ov' (fun x => (bo x /\ x < H1.next) \/ x = h3.next + 1) := f2.keep fun x y hx hy => by
   have : x ≠ r := by
    rcases hx with hx | hx
    · exact (bm x hx.1).2.2
    · omega
   rw [hH5]; simp [this, hy]
  have gD5 : Gr H5 32 (nd + (j - s)) ds dv (fun x => bd x /\ x < H1.next) := gD3.keep fun x y hx hy => k5 x y (dm x hx.1).2.2 (fun hb => bX x hb hx.1) hy
  have kk5 : ∀ x y, x ≠ r -> x ≠ m -> x ≠ q -> ¬ bo x -> H1.get x = some y -> H5.get x = some y := fun x y a b c d hy => k5 x y a d (k3 x y b c (k2 x y hy))
  have lt5 : ∀ j x, H5.get j = some x -> j < H5.next := fun j x hx => by
   have hrE := ltE _ _ hr4
   rw [hH5] at hx ⊢
   simp only [AHeap.get_set, AHeap.next_set] at hx ⊢
   split at hx
   · rename_i e; rw [e]; exact hrE
   · exact ltE _ _ hx
  clear hH5 f1 f2 f3 f4 hH4 ltE hr4 k5 gO3 gD3 hr3 he3 hM4 k3 k2
  obtain ⟨D, hD, hDl, hDs⟩ : ∃ D, digestV (memI a' c' true true) (j + 1) = .agg D /\ D.length = 32 /\ D.all AV.scalar = true := ⟨u8s (shaOf (stateB (memI a' c' true true) (j + 1))), rfl, by simp [u8s, shaOf_len], by simp [u8s]⟩
  have hdg := digest_does (G := G) hM5
  rw [hD] at hdg
  have q5 : r ≠ H5.next := by omega
  have tkD : D.take 32 = D := List.take_of_length_le (by omega)
  obtain ⟨dv', eff, f1, f2, f3, f4⟩ := (gD5.keep (H' := H5.push (.cells D)) fun x y hx hy => by
   have : x ≠ H5.next := by omega
   simp [this, hy]).app elemDig (m := 1) (x := .sl H5.next 0 32 1 1 false) (news := D) (fun _ _ e => by cases e) rfl (by simp [zaj, hDl, tkD]) hDs (by omega) (by omega) (by omega) (by omega) (by omega) (nx := H5.next + 1) rfl
  simp only [AHeap.next_push] at f2 f3 f4
  have dvs' := f2.sc
  have dvc' := f2.cells
  refine zam [(4, 0), (4, 10), (8, 0)] zag (by kernel_rfl) ?_
  intro es hes
  simp [zak, -zal, t0, hr5, dvs, dvc]
  refine ⟨_, _, hdg, Nat.le_refl _, ?_⟩
  refine ad_go (fun T' => T' 79 = .ptr r 0 /\ T' 83 = dv /\ T' 88 = .agg D /\ T' 0 = .ptr r 0) (by simp [t0]) ?_
  rintro T1 ⟨b79, b83, b88, b0⟩
  simp [zak, -zal, b79, b83, b88, b0, hDl, hDs, hr5, -zao]
  rw [f1]
  generalize hH6 : H5.push (.cells D) = H6 at *
  have hr6 : (H6.eff eff).get r = some (.cells [AV.ptr ci 0, c1, c2, AV.ptr m 0, AV.sl pI 0 1 1 cap opI, c5, c6, c7, AV.int IntKind.i64 ↑j, AV.vsl C n, ov', dv, lvs, dn]) := by
   rw [f3 r (fun h => (dm r h.1).2.2 rfl) (by omega), <- hH6]
   simp [q5, hr5]
  have wr : IntKind.i64.wrap ((j : Int) + 1) = ((j + 1 : Nat) : Int) := by rw [IntWalk.i64_in _ (by omega)]; omega
  simp [zak, -zal, b79, b83, b88, b0, hr6, dvs', dvc']
  refine ⟨by subst hes; exact ⟨by kernel_rfl, by kernel_rfl⟩, by simp [rds, heapF, hr5, dvs, dvc], ?_⟩
  simp [b0, wr]
  have k6 : ∀ x y, ¬ bd x -> H5.get x = some y -> (H6.eff eff).get x = some y := fun x y hb hy => by
   have x1 : x < H5.next \/ H5.next <= x := by omega
   have x0 : (H5.push (.cells D)).get x = some y -> (H6.eff eff).get x = some y \/ x = H5.next + 1 := fun hh => by
    by_cases e : x = H5.next + 1
    · exact .inr e
    · left
      rw [f3 x (fun h => hb h.1) e, <- hH6]; exact hh
   have := lt5 _ _ hy
   have x2 : x ≠ H5.next := by omega
   rcases x0 (by simp [x2, hy]) with h' | h'
   · exact h'
   · omega
  have eO : no + (j + 1 - s) = no + (j - s) + 1 := by omega
  have eD : nd + (j + 1 - s) = nd + (j - s) + 1 := by omega
  refine ⟨k - 1, by omega, j + 1, by omega, by omega, ov', dv', by rw [hVC]; simp [rpV], ?_, fun x y x1 x2 x3 x4 hx => ?_, by omega⟩
  · rw [eO, eD]
    have gO6 : Gr H5 3 (no + (j - s) + 1) (outC (os ++ [((j : Int), (e.id : Int), y1, y2)])) ov' (fun x => (bo x /\ x < H1.next) \/ x = h3.next + 1) := by
     rw [outC_snoc, <- hw00]; exact gO5
    refine ⟨a', c', true, true, _, _, fun x => (bo x /\ x < H1.next) \/ x = h3.next + 1, fun x => (bd x /\ x < H1.next) \/ x = H5.next + 1, ⟨?_, ?_, hM5.2.2⟩, gO6.keep fun x y hx hy => ?_, f2.keep fun x y hx hy => ?_, fun x hx => ?_, fun x hx => ?_, fun x hx hy => ?_, nm, nq⟩
    · simp [hrm.symm, k6 _ _ (fun hx => (dm m hx).1 rfl) hM5.1]
    · simp [hrq.symm, k6 _ _ (fun hx => (dm q hx).2.1 rfl) hM5.2.1]
    · have x1 : x ≠ r := by
       rcases hx with hx | hx
       · exact (bm x hx.1).2.2
       · omega
      have x2 : ¬ bd x := fun hb => by
       rcases hx with hx | hx
       · exact bX x hx.1 hb
       · rw [hx] at hb
         have := hbN _ hb; omega
      simp [x1, k6 x y x2 hy]
    · have x1 : x ≠ r := by
       rcases hx with hx | hx
       · exact (dm x hx.1).2.2
       · omega
      simp [x1, hy]
    · rcases hx with hx | hx
      · exact bO x hx.1
      · exact .inr (by omega)
    · rcases hx with hx | hx
      · exact bD x hx.1
      · exact .inr (by omega)
    · rcases hx with hx | hx <;> rcases hy with hy | hy
      · exact bX x hx.1 hy.1
      · omega
      · omega
      · omega
  · have x0 := zaa hw hx
    rw [if_neg x1]
    refine k6 x y (fun hb => ?_) (kk5 x y x1 x2 x3 (fun hb => ?_) (hk x y x1 x2 x3 x4 hx))
    · rcases bD x hb with hb | hb
      · exact x4 hb
      · omega
    · rcases bO x hb with hb | hb
      · exact x4 hb
      · omega
def StpAt (H : AHeap) (s : Nat) (l : List Bs) (b : Nat -> Prop) : Prop := ∃ vs sv, H.get s = some (.cells [sv, .nilsl]) /\ Gr H 1 l.length vs sv b /\ Bts vs l /\ ¬ b s
theorem StpAt.keep {H H' : AHeap} {s : Nat} {l : List Bs} {b : Nat -> Prop} (h : StpAt H s l b) (hk : ∀ j y, j = s \/ b j -> H.get j = some y -> H'.get j = some y) : StpAt H' s l b := by
 obtain ⟨vs, sv, h1, h2, h3, h4⟩ := h
 exact ⟨vs, sv, hk _ _ (.inl rfl) h1, h2.keep fun j x hj => hk j x (.inr hj), h3, h4⟩
theorem StpAt.mono {H : AHeap} {s : Nat} {l : List Bs} {b b' : Nat -> Prop} (h : StpAt H s l b) (hb : ∀ j, b j -> b' j) (hs : ¬ b' s) : StpAt H s l b' := by
 obtain ⟨vs, sv, h1, h2, h3, h4⟩ := h
 exact ⟨vs, sv, h1, h2.mono hb, h3, hs⟩
theorem save_does {H : AHeap} {i s me n : Nat} {cs : List AV} (hi : H.get i = some (.cells (.int .i64 me :: .int .i64 n :: cs))) (b1 : me < 2 ^ 62) (b2 : n < 2 ^ 62) {kind view : Nat} (b3 : kind < 2 ^ 64) (b4 : view < 2 ^ 64) {v : AV} {l : List En} (hv : EnF v l) (hl : l.length <= 1000) (he : ∀ e ∈ l, EnSm e)
  {L : List Bs} {b : Nat -> Prop} (hs : StpAt H s L b) (hL : L.length <= 1000) :
  Does Tryz.prog G 148 [.ptr i 0, .ptr s 0, .int .u64 kind, .int .u64 view, v] H fun r h => r = .tuple [] /\ StpAt h s (L ++ [za4 me n kind view 0 0 l]) (fun x => b x \/ H.next <= x) /\ (∀ j y, j ≠ s -> ¬ b j -> H.get j = some y -> h.get j = some y) /\ H.next <= h.next := by
 refine Does.wf Tryz.call148 fun hw _ => ?_
 obtain ⟨vs, sv, h1, h2, h3, h4⟩ := hs
 have svs := h2.sc
 have svc := h2.cells
 have hsn := zaa hw h1
 have q1 : s ≠ H.next := by omega
 have hrec := record_does (G := G) hi b1 b2 b3 b4 (last := 0) (agreed := 0) (by decide) (by decide) hv hl he
 have evs := hv.sc
 have evc := hv.cells
 generalize za4 me n kind view 0 0 l = R at *
 obtain ⟨v', eff, f1, f2, f3, f4⟩ := (h2.keep (H' := H.push (.cells [bV R])) fun x y hx hy => by
   have := zaa hw hy
   have : x ≠ H.next := by omega
   simp [this, hy]).app elemBs (m := 1) (x := .sl H.next 0 1 1 1 false) (news := [bV R]) (fun _ _ e => by cases e) rfl (by simp [zaj]) (by simp) rfl (by omega) (by omega) (by omega) (by omega) (nx := H.next + 1) rfl
 simp only [AHeap.next_push] at f2 f3 f4
 have vs' := f2.sc
 have vc' := f2.cells
 refine zad Tryz.call148 Tryz.func148 rfl (by simp [Tryz.f148]) ?_
 simp
 refine zam [(4, 0), (4, 10)] zag (by kernel_rfl) ?_
 intro es hes
 simp [zak, -zal, h1, svs, svc, evs, evc]
 refine ⟨_, _, hrec, Nat.le_refl _, ?_⟩
 refine ad_go (fun T' => T' 10 = .ptr s 0 /\ T' 14 = sv /\ T' 19 = bV R) (by simp) ?_
 rintro T1 ⟨t10, t14, t19⟩
 simp [zak, -zal, t10, t14, t19, h1, q1, -zao]
 rw [f1]
 generalize hH2 : H.push (.cells [bV R]) = H2 at *
 have hs2 : (H2.eff eff).get s = some (.cells [sv, .nilsl]) := by
  rw [f3 s h4 (by omega), <- hH2]
  simp [q1, h1]
 simp [zak, -zal, t10, t14, t19, hs2, vs', vc']
 refine ⟨by subst hes; exact ⟨by kernel_rfl, by kernel_rfl⟩, by simp [rds, heapF, h1, svs, svc], ?_⟩
 refine ⟨⟨vs ++ [bV R], v', by simp, ?_, h3.snoc (BtA.bV R), fun hx => ?_⟩, fun j y hj hb hy => ?_, by omega⟩
 · rw [List.length_append]
   refine (f2.keep fun x y hx hy => ?_).mono fun x hx => ?_
   · have : x ≠ s := by
      rcases hx with hx | hx
      · exact fun e => h4 (e ▸ hx)
      · omega
     simp [this, hy]
   · rcases hx with hx | hx
     · exact .inl hx
     · exact .inr (by omega)
 · rcases hx with hx | hx
   · exact h4 hx
   · omega
 · have := zaa hw hy
   rw [if_neg hj, f3 j hb (by omega), <- hH2]
   have p1 : j ≠ H.next := by omega
   simp [p1, hy]
theorem take_more {H : AHeap} {i s me n view : Nat} {lv a5 a6 a7 a8 a9 a10 : AV} {l m : List En} (hi : H.get i = some (.cells [.int .i64 me, .int .i64 n, .int .u64 view, .int .u64 view, lv, a5, a6, a7, a8, a9, a10])) (b1 : me < 2 ^ 62) (b2 : n < 2 ^ 62) (hlv : EnF lv l)
  {w : AV} (hw' : EnF w (l ++ m)) (hl : (l ++ m).length <= 1000) (hm : 0 < m.length) (he : ∀ e ∈ l ++ m, EnSm e) (hbg : begins (l ++ m) l = true) {L : List Bs} {b : Nat -> Prop} (hs : StpAt H s L b) (hL : L.length <= 1000) (his : i ≠ s) (hib : ¬ b i) :
  Does Tryz.prog G 135 [.ptr i 0, .ptr s 0, .int .u64 view, w] H fun r h => r = .tuple [] /\ StpAt h s (L ++ [za4 me n 3 0 0 0 m]) (fun x => b x \/ H.next <= x) /\ h.get i = some (.cells [.int .i64 me, .int .i64 n, .int .u64 view, .int .u64 view, w, a5, a6, a7, a8, a9, a10]) /\ (∀ j y, j ≠ i -> j ≠ s -> ¬ b j -> H.get j = some y -> h.get j = some y) /\ H.next <= h.next := by
 refine Does.wf Tryz.call135 fun hw _ => ?_
 have ls := hlv.sc
 have lc := hlv.cells
 have ws := hw'.sc
 have wc := hw'.cells
 have hll : l.length <= 1000 := by rw [List.length_append] at hl; omega
 have hml : m.length <= 1000 := by rw [List.length_append] at hl; omega
 have hal : alen Tryz.prog 48 lv = some (.int .i64 l.length) := hlv.alen (e := 62) (by simp)
 obtain ⟨ts, hwv⟩ := hw'.vsl (by rw [List.length_append]; omega)
 obtain ⟨u, hu, hsl⟩ : ∃ u, EnF u m /\ aslice Tryz.prog 48 w (some (.int .i64 l.length)) none none = some u := by
  refine ⟨.vsl (entsC m ++ ts) m.length, .inr ⟨ts, rfl⟩, ?_⟩
  rw [hwv]
  have e1 : (entsC (l ++ m) ++ ts).drop (l.length * 3) = entsC m ++ ts := by
   rw [entsC_append, List.append_assoc, List.drop_left' (entsC_len l)]
  have c1 : (l.length : Int) <= l.length + m.length := by omega
  simp [aslice, c1, hm, e1]
 have us := hu.sc
 have uc := hu.cells
 have ual : alen Tryz.prog 48 u = some (.int .i64 m.length) := hu.alen (e := 62) (by simp)
 have hm' : (0 : Int) < m.length := by omega
 refine zad Tryz.call135 Tryz.func135 rfl (by simp [Tryz.f135]) ?_
 simp [hi, ls, lc, ws, wc]
 refine zab (begins_does hw' hlv (by omega) (fun e h => by have := (he e h).2; omega) _) ?_
 rintro x h ⟨rfl, rfl⟩
 rw [hbg]
 simp [hi, ls, lc, ws, wc, hal, hsl, ual, hm', hm, us, uc, -alen, -aslice]
 refine zae (save_does hi b1 b2 (kind := 3) (view := 0) (by decide) (by decide) hu (by omega) (fun e h => he e (List.mem_append.2 (.inr h))) hs hL) ?_
 rintro x h2 ⟨rfl, g1, g2, g3⟩ hw2 _
 have hi2 := g2 _ _ his hib hi
 simp [hi2, ws, wc]
 refine ⟨?_, fun j y h1 h2' h3 hy => by rw [if_neg h1]; exact g2 _ _ h2' h3 hy, g3⟩
 refine g1.keep fun j y hj hy => ?_
 have : j ≠ i := by
  rcases hj with rfl | hj | hj
  · exact his.symm
  · exact fun e => hib (e ▸ hj)
  · have := zaa hw hi; omega
 simp [this, hy]
theorem sort1_raw (u : Int) : Does Tryz.prog G 150 [.sl 0 0 1 1 1 true] (AHeap.ofList [.cells [.int .u64 u]]) fun r H => r = .tuple [] /\ H = AHeap.ofList [.cells [.int .u64 u]] :=
 tick_does (ov := noOv) (fuel := 100000) (n := 300) mixedM plainM (noOv_good _ _) rfl (by kernel_rfl) (fun Q => by kernel_rfl)
theorem sort1_does (hG : ∀ g a, G g = some a -> a.idLt 0 = true) {H : AHeap} {p : Nat} {u : Int} (hp : H.get p = some (.cells [.int .u64 u])) : Does Tryz.prog G 150 [.sl p 0 1 1 1 true] H fun r h => r = .tuple [] /\ h = H := by
 have hpt := part_one hp (by rfl)
 have h1 := (sort1_raw (G := G) u).part (heapOk_wf (l := [.cells [.int .u64 u]]) rfl) (by rfl) hpt hG fun r H1 ⟨e1, e2⟩ => ⟨by rw [e2], by rw [e1]; rfl⟩
 refine Does.mono h1 ?_
 rintro r h ⟨r0, H1, ⟨rfl, rfl⟩, rfl, rfl⟩
 exact ⟨rfl, patch_same hpt⟩
theorem quorum_one {H : AHeap} {i : Nat} {a0 : AV} {cs : List AV} (hi : H.get i = some (.cells (a0 :: .int .i64 1 :: cs))) : Does Tryz.prog G 149 [.ptr i 0] H fun r h => r = .int .i64 1 /\ h = H := by
 refine zad Tryz.call149 Tryz.func149 rfl (by simp [Tryz.f149]) ?_
 simp [hi]
 try decide
theorem settle_one (hG : ∀ g a, G g = some a -> a.idLt 0 = true) {H : AHeap} {i hh ag x : Nat} {a2 a3 lv a6 a7 a8 a10 : AV} {l : List En} (hi : H.get i = some (.cells [.int .i64 0, .int .i64 1, a2, a3, lv, .int .i64 ag, a6, a7, a8, .map hh, a10])) (hm : H.get hh = some (.map [(.int .i64 0, .int .u64 x)]))
  (hlv : EnF lv l) (hl : l.length <= 1000) (hag : ag <= l.length) :
  Does Tryz.prog G 101 [.ptr i 0] H fun r h => r = .tuple [] /\ h.get i = some (.cells [.int .i64 0, .int .i64 1, a2, a3, lv, .int .i64 l.length, a6, a7, a8, .map hh, a10]) /\ h.get hh = some (.map [(.int .i64 0, .int .u64 l.length)]) /\ (∀ j y, j ≠ i -> j ≠ hh -> H.get j = some y -> h.get j = some y) /\ H.next <= h.next := by
 refine Does.wf Tryz.call101 fun hw _ => ?_
 have ls := hlv.sc
 have lc := hlv.cells
 have hal : alen Tryz.prog 48 lv = some (.int .i64 l.length) := hlv.alen (e := 62) (by simp)
 have wl : IntKind.u64.wrap (l.length : Int) = l.length := IntWalk.u64_in _ (by omega)
 have wi : IntKind.i64.wrap (l.length : Int) = l.length := IntWalk.i64_in _ (by omega)
 have ih : i ≠ hh := fun e => by rw [e, hm] at hi; cases hi
 have hin := zaa hw hi
 have hhn := zaa hw hm
 refine zad Tryz.call101 Tryz.func101 rfl (by simp [Tryz.f101]) ?_
 simp
 refine zam [(3, 0), (7, 0), (11, 0)] zag (by kernel_rfl) ?_
 intro es hes
 simp [hi, hm, ls, lc, hal, wl, ih, -alen]
 refine ⟨by subst hes; exact ⟨by kernel_rfl, by kernel_rfl⟩, by simp [rds, heapF, hi, ls, lc], ?_⟩
 clear hes es
 obtain ⟨H1, hH1⟩ : ∃ H1, H1 = H.set hh (.map [(.int .i64 0, .int .u64 l.length)]) := ⟨_, rfl⟩
 rw [<- hH1]
 have hi1 : H1.get i = some (.cells [.int .i64 0, .int .i64 1, a2, a3, lv, .int .i64 ag, a6, a7, a8, .map hh, a10]) := by rw [hH1]; simp [ih, hi]
 have hm1 : H1.get hh = some (.map [(.int .i64 0, .int .u64 l.length)]) := by rw [hH1]; simp
 have k1 : ∀ j y, j ≠ i -> j ≠ hh -> H.get j = some y -> H1.get j = some y := fun j y a b hy => by rw [hH1]; simp [b, hy]
 have n1 : H1.next = H.next := by rw [hH1]; rfl
 clear hH1 hi hm
 have q1 : i ≠ H1.next := by omega
 have q2 : i ≠ H1.next + 1 := by omega
 have q3 : hh ≠ H1.next := by omega
 have q4 : hh ≠ H1.next + 1 := by omega
 refine zai (fun m T' H' => (m = 1 /\ H' = H1 /\ T' 2 = .nilsl /\ T' 24 = .int .i64 0 \/ m = 0 /\ H'.get i = H1.get i /\ H'.get hh = H1.get hh /\ (∀ j y, H1.get j = some y -> H'.get j = some y) /\ H1.next <= H'.next /\ (∃ p, T' 2 = .sl p 0 1 1 1 true /\ p ≠ i /\ H'.get p = some (.cells [.int .u64 l.length])) /\ T' 24 = .int .i64 1) /\ T' 0 = .ptr i 0 /\ T' 23 = .int .i64 1) 1 ?_ ?_
 · refine ⟨.inl ⟨rfl, rfl, ?_, ?_⟩, ?_, ?_⟩ <;> simp
 rintro m T H2 ⟨h, t0, t23⟩ hw2 _
 rcases h with ⟨rfl, rfl, t2, t24⟩ | ⟨rfl, g1, g2, g3, g4, ⟨p, t2, hpi, g5⟩, t24⟩
 · have wr : IntKind.i64.wrap (0 + 1) = 1 := rfl
   simp [t0, t2, t23, t24, hi1, hm1, wr]
   refine ⟨by simp [q1, q2], by simp [q3, q4], fun j y hj => ?_, by omega, by omega, by decide⟩
   have := zaa hw2 hj
   have p1 : j ≠ H2.next := by omega
   have p2 : j ≠ H2.next + 1 := by omega
   simp [p1, p2, hj]
 · have g1 := g1.trans hi1
   have g2 := g2.trans hm1
   simp [t0, t2, t23, t24]
   refine zab (quorum_one g1) ?_
   rintro r h ⟨rfl, rfl⟩
   simp [t2]
   refine zab (sort1_does hG g5) ?_
   rintro r h3 ⟨rfl, rfl⟩
   simp
   refine zam [(4, 0), (4, 10), (12, 10), (16, 0), (16, 10)] zag (by kernel_rfl) ?_
   intro es hes
   simp [zak, -zal, t0, t2, g1, ls, lc]
   refine ⟨_, _, quorum_one g1, Nat.le_refl _, ?_⟩
   refine ad_go (fun T' => T' 0 = .ptr i 0 /\ T' 49 = .ptr i 0 /\ T' 53 = .int .i64 ag /\ T' 54 = .sl p 0 1 1 1 true /\ T' 56 = .int .i64 1 /\ T' 58 = .int .i64 1) (by simp [t0, t2]) ?_
   rintro T1 ⟨b0, b49, b53, b54, b56, b58⟩
   have w0 : IntKind.i64.wrap (1 - 1) = 0 := rfl
   have w00 : IntKind.i64.wrap 0 = 0 := rfl
   have ca : (ag : Int) <= l.length := by omega
   simp [zak, -zal, b0, b49, b53, b54, b56, b58, g1, g5, ls, lc, hal, wl, wi, w0, w00, -alen]
   refine ⟨by subst hes; exact ⟨by kernel_rfl, by kernel_rfl⟩, by simp [rds, heapF, g1, g5, ls, lc], by omega, by rw [if_neg ih.symm]; exact g2, fun j y a b hy => by rw [if_neg a]; exact g3 _ _ (k1 j y a b hy), by omega⟩
theorem lay_one {H : AHeap} {i s hh ag view : Nat} {a3 lv a6 a7 a8 a10 : AV} {l : List En} (hi : H.get i = some (.cells [.int .i64 0, .int .i64 1, .int .u64 view, a3, lv, .int .i64 ag, a6, a7, a8, .map hh, a10])) (hm : H.get hh = some (.map [(.int .i64 0, .int .u64 l.length)]))
  (hlv : EnF lv l) (hl : l.length <= 1000) (hag : ag <= l.length) :
  Does Tryz.prog G 136 [.ptr i 0, .ptr s 0] H fun r h => r = .tuple [] /\ (∀ j y, H.get j = some y -> h.get j = some y) /\ H.next <= h.next := by
 refine Does.wf Tryz.call136 fun hw _ => ?_
 have ls := hlv.sc
 have lc := hlv.cells
 have hal : alen Tryz.prog 48 lv = some (.int .i64 l.length) := hlv.alen (e := 62) (by simp)
 have wl : IntKind.u64.wrap (l.length : Int) = l.length := IntWalk.u64_in _ (by omega)
 have wa : IntKind.u64.wrap (ag : Int) = ag := IntWalk.u64_in _ (by omega)
 have hin := zaa hw hi
 have hhn := zaa hw hm
 have q1 : i ≠ H.next := by omega
 have q2 : hh ≠ H.next := by omega
 refine zad Tryz.call136 Tryz.func136 rfl (by simp [Tryz.f136]) ?_
 simp [hi]
 refine zai (fun m T' H' => (m = 1 /\ H' = H /\ T' 12 = .int .i64 0 \/ m = 0 /\ (∀ j y, H.get j = some y -> H'.get j = some y) /\ H.next <= H'.next /\ T' 12 = .int .i64 1) /\ T' 0 = .ptr i 0 /\ T' 1 = .ptr s 0 /\ T' 11 = .int .i64 1) 1 ?_ ?_
 · refine ⟨.inl ⟨rfl, rfl, ?_⟩, ?_, ?_, ?_⟩ <;> simp
 rintro m T H2 ⟨h, t0, t1, t11⟩ hw2 _
 rcases h with ⟨rfl, rfl, t12⟩ | ⟨rfl, g1, g2, t12⟩
 · have wr : IntKind.i64.wrap (0 + 1) = 1 := rfl
   simp [t0, t1, t11, t12]
   refine zam [(4, 0), (10, 0)] zag (by kernel_rfl) ?_
   intro es hes
   simp [t0, t1, t11, t12, hi, ls, lc, hal, wl, wa, q1, q2, hm, -alen]
   refine ⟨by subst hes; exact ⟨by kernel_rfl, by kernel_rfl⟩, by simp [rds, heapF, hi, ls, lc], ?_⟩
   obtain ⟨H3, hH3⟩ : ∃ H3, H3 = H2.push (.cells [.int .i64 6, .int .i64 0, .int .i64 0, .int .u64 0, .int .u64 0, .int .u64 l.length, .int .u64 ag, .nilsl, .nilsl]) := ⟨_, rfl⟩
   rw [<- hH3]
   have k3 : ∀ j y, H2.get j = some y -> H3.get j = some y := fun j y hy => by
    have := zaa hw2 hy
    have p1 : j ≠ H2.next := by omega
    rw [hH3]; simp [p1, hy]
   have n3 : H2.next <= H3.next := by rw [hH3]; simp
   refine zab (send_self (k3 _ _ hi) (kind := 6) (frm := 0) (view' := 0) (last := 0) (op := l.length) (commit := ag) (ev := .nilsl) (bv := .nilsl) rfl rfl rfl rfl) ?_
   rintro r h4 ⟨rfl, rfl⟩
   simp [t0, t1, t11, t12, wr]
   exact ⟨k3, n3, rfl⟩
 · simp [t0, t1, t11, t12]
   exact ⟨g1, g2⟩
theorem wanted_one {H : AHeap} {i : Nat} {a0 a1 a2 a3 lv a5 a7 a8 a9 : AV} {l : List En} (k1 : H.get i = some (.cells [a0, a1, a2, a3, lv, a5, .bool true, a7, a8, a9, .nilsl])) (k4 : EnF lv l) (h1 : l.length <= 1000000) {e : En} (hm : may e = true) (hl : hasId l e.id = false) (he : e.l.length <= 1000000) :
  Does Tryz.prog G 85 [.ptr i 0, enV e (rowV e.row)] H fun r h => r = .bool true /\ ∃ p, H.next <= p /\ h.get i = some (.cells [a0, a1, a2, a3, lv, a5, .bool true, a7, a8, a9, .sl p 0 3 1 1 true]) /\ h.get p = some (.cells (entsC [e])) /\ (∀ j x, j ≠ i -> H.get j = some x -> h.get j = some x) /\ H.next <= h.next := by
 refine Does.wf Tryz.call85 fun hw _ => ?_
 refine zad Tryz.call85 Tryz.func85 rfl (by simp [Tryz.f85]) ?_
 have hin := zaa hw k1
 have q1 : i ≠ H.next := by omega
 have q2 : i ≠ H.next + 1 := by omega
 have q3 : i ≠ H.next + 1 + 1 := by omega
 have ls := k4.sc
 have lc := k4.cells
 have hv := RowA.rowV e.row
 have vs := hv.sc
 have vc := hv.cells
 simp [enV, vs, vc]
 refine zam [(0, 0), (7, 2), (9, 2), (16, 11), (18, 11)] zag (by kernel_rfl) ?_
 intro es hes
 simp [zak, -zal, k1, q1, q1.symm, vs, vc]
 refine ⟨_, _, may_does' hv _, Nat.le_refl _, ?_⟩
 refine ad_go (fun T' => T' 0 = .ptr i 0 /\ T' 3 = .ptr H.next 0 /\ T' 6 = .bool true) (by simp [hm]) ?_
 rintro T1 ⟨a0', a3', a6⟩
 simp [zak, -zal, a0', a3', a6, k1, q1, q1.symm, vs, vc, ls, lc]
 refine ⟨_, _, has_does k4 h1 e.id _, Nat.le_refl _, ?_⟩
 refine ad_go (fun T' => T' 0 = .ptr i 0 /\ T' 3 = .ptr H.next 0 /\ T' 8 = .bool false /\ T' 15 = .bool false) (by simp [hl, a0', a3']) ?_
 rintro T2 ⟨a0', a3', a8', a15⟩
 simp [zak, -zal, a0', a3', a8', a15, k1, q1, q1.symm, vs, vc]
 refine ⟨_, _, has_does (l := []) (.inl ⟨rfl, rfl⟩) (by simp) e.id _, Nat.le_refl _, ?_⟩
 refine ad_go (fun T' => T' 0 = .ptr i 0 /\ T' 3 = .ptr H.next 0 /\ T' 17 = .bool false /\ T' 24 = .bool false) (by simp [hl, a0', a3', hasId]) ?_
 rintro T3 ⟨a0', a3', a17, a24⟩
 simp [zak, -zal, a0', a3', a17, a24]
 refine ⟨by subst hes; exact ⟨by kernel_rfl, by kernel_rfl⟩, by simp [rds, heapF, vs, vc, k1, q1, ls, lc], ?_⟩
 simp [a0', a3', k1, q1]
 refine zam [(4, 0), (4, 7), (5, 0)] zag (by kernel_rfl) ?_
 intro es hes
 simp [zak, -zal, a0', a3', k1, q1, vs, vc]
 refine ⟨_, _, copyEn_does hv (by omega) _, Nat.le_refl _, ?_⟩
 refine ad_go (fun T' => T' 0 = .ptr i 0 /\ T' 3 = .ptr H.next 0 /\ T' 40 = .ptr i 0 /\ T' 44 = .nilsl /\ T' 46 = enV e (rowV e.row)) (by simp [a0', a3']) ?_
 rintro T4 ⟨b0, b3, a40, a44, a46⟩
 simp [zak, -zal, b0, b3, a40, a44, a46, enV, vs, vc, k1, q1, q2, q3]
 refine ⟨by subst hes; exact ⟨by kernel_rfl, by kernel_rfl⟩, by simp [rds, heapF, vs, vc, k1, q1, a3'], ?_⟩
 refine ⟨H.next + 1 + 1, by omega, rfl, ?_, fun j x hj hx => ?_, by omega⟩
 · rw [if_neg q3.symm]
   simp [entsC]
 · have := zaa hw hx
   have p1 : j ≠ H.next := by omega
   have p2 : j ≠ H.next + 1 := by omega
   have p3 : j ≠ H.next + 1 + 1 := by omega
   simp [hj, p1, p2, p3, hx]
def clipV (l : List En) : AV := if l.length = 0 then .nilsl else .csl (entsC l) l.length
theorem entsV_cons {l : List En} (h : 0 < l.length) : entsV l = .vsl (entsC l) l.length := by
 cases l with
 | nil => simp at h
 | cons a l => rfl
theorem clip_ents {l : List En} (hl : l.length <= 1000000) (H : AHeap) : Does Tryz.prog G 134 [entsV l] H fun r h => r = clipV l /\ h = H := by
 by_cases h0 : l.length = 0
 · rw [List.length_eq_zero_iff.1 h0]
   refine zad Tryz.call134 Tryz.func134 rfl (by simp [Tryz.f134]) ?_
   simp [entsV, clipV]
 · refine (clip_does (EnF.entsV l) hl H).mono ?_
   rintro r h ⟨⟨h1, _⟩ | ⟨h1, C, rfl, h3⟩, rfl⟩
   · rw [h1] at h0; simp at h0
   · rw [entsV_cons h1] at h3
     cases h3
     exact ⟨by unfold clipV; rw [if_neg h0], rfl⟩
theorem has_clip {l : List En} (hl : l.length <= 1000000) (id : Nat) (H : AHeap) : Does Tryz.prog G 87 [clipV l, .int .u64 id] H fun r h => r = .bool (hasId l id) /\ h = H := by
 unfold clipV
 split
 · rename_i h0
   rw [List.length_eq_zero_iff.1 h0]
   exact has_does (.inl ⟨rfl, rfl⟩) (by simp) id H
 · exact Go.Rp.Does.weak (has_does (v := .vsl (entsC l) l.length) (.inr ⟨[], by simp⟩) hl id H) fun E vs h => by
    cases h with | cons h1 h2 => exact .cons (csl_vsl h1) h2
theorem clip_app {l : List En} {e : En} {get : Nat -> Option AObj} {nx q : Nat} (hl : l.length <= 1000) (hq : get q = some (.cells (entsC [e]))) :
  zao Tryz.prog 48 48 get nx (clipV l) (.sl q 0 3 1 1 false) = some (.sl nx 0 3 (l.length + 1) (l.length + 1) true, .new (.cells (entsC (l ++ [e])))) := by
 unfold clipV
 have rs := (RowA.rowV e.row).sc
 split
 · rename_i h0
   rw [List.length_eq_zero_iff.1 h0]
   simp [zao, zaj, zar, hq, entsC, rs]
 · have k1 : (l.length + 1) * 40 <= 140737488355328 := by omega
   have k2 : l.length <= 4611686018427387903 := by omega
   have k3 := entsC_len l
   have k4 : l.length * 3 <= (entsC l).length := by omega
   have tk : (entsC l).take (l.length * 3) = entsC l := List.take_of_length_le (by omega)
   have e1 : entsC (l ++ [e]) = entsC l ++ entsC [e] := entsC_append _ _
   have ec : entsC [e] = [.int .u64 e.id, .int .u64 e.view, rowV e.row] := by simp [entsC]
   rw [e1, ec]
   rw [ec] at hq
   generalize entsC l = C at *
   simp [zao, zaj, zar, hq, k1, k2, k4, tk, rs]
def cL (l w : List En) : Co := ⟨0, 1, 1, 1, l, l.length, true, 0, [], [(0, l.length)], w⟩
theorem grow_led (hG : ∀ g a, G g = some a -> a.idLt 0 = true) {H : AHeap} {i s p g hh : Nat} {l : List En} {e : En} (k1 : H.get i = some (.cells (coC (cL l [e]) (entsV l) g hh (.sl p 0 3 1 1 true)))) (hm : H.get hh = some (.map [(.int .i64 0, .int .u64 l.length)])) (hp : H.get p = some (.cells (entsC [e])))
  (hid : hasId l e.id = false) (hl : l.length < 200) (hsm : ∀ x ∈ l ++ [e], EnSm x) (hbg : begins (l ++ [e]) l = true) {L : List Bs} {b : Nat -> Prop} (hs : StpAt H s L b) (hL : L.length <= 900) (his : i ≠ s) (hib : ¬ b i) (hhs : hh ≠ s) (hhb : ¬ b hh) :
  Does Tryz.prog G 81 [.ptr i 0, .ptr s 0] H fun r h => r = .tuple [] /\ h.get i = some (.cells (coC (cL (l ++ [e]) []) (entsV (l ++ [e])) g hh .nilsl)) /\ h.get hh = some (.map [(.int .i64 0, .int .u64 (l ++ [e]).length)]) /\ StpAt h s (L ++ [za4 0 1 3 0 0 0 [e]]) (fun x => b x \/ H.next <= x) /\
   (∀ j y, j ≠ i -> j ≠ hh -> j ≠ s -> ¬ b j -> H.get j = some y -> h.get j = some y) /\ H.next <= h.next := by
 refine Does.wf Tryz.call81 fun hw _ => ?_
 have hv := EnF.entsV l
 have ls := hv.sc
 have lc := hv.cells
 have hin := zaa hw k1
 have hpn := zaa hw hp
 have hcv : (clipV l).scalar = true /\ (clipV l).cells = [clipV l] /\ alen Tryz.prog 48 (clipV l) = some (.int .i64 l.length) := by
  unfold clipV
  split
  · rename_i h0
    simp [alen, h0]
  · simp [alen]
 obtain ⟨cs, cc, ca⟩ := hcv
 have rx := RowA.rowV e.row
 have rs := rx.sc
 have rc := rx.cells
 have ec : entsC [e] = [.int .u64 e.id, .int .u64 e.view, rowV e.row] := by simp [entsC]
 have hl' : (l.length : Int) < 200 := by omega
 refine zad Tryz.call81 Tryz.func81 rfl (by simp [Tryz.f81]) ?_
 have k1' := k1
 simp only [coC, cL] at k1'
 simp [k1', ls, lc]
 refine zab (clip_ents (by omega) _) ?_
 rintro x h ⟨rfl, rfl⟩
 simp [k1', ls, lc, cs, cc]
 refine aws_loopz (fun m T' H' => (m = 1 /\ H' = h /\ T' 4 = clipV l /\ T' 17 = .int .i64 0 \/ m = 0 /\ T' 4 = entsV (l ++ [e]) /\ (∀ j y, h.get j = some y -> H'.get j = some y) /\ h.next <= H'.next /\ T' 17 = .int .i64 1) /\ T' 0 = .ptr i 0 /\ T' 1 = .ptr s 0 /\ T' 15 = .sl p 0 3 1 1 true /\ T' 16 = .int .i64 1) 1 ?_ ?_
 · refine ⟨.inl ⟨rfl, rfl, ?_, ?_⟩, ?_, ?_, ?_, ?_⟩ <;> simp
 rintro m T H1 ⟨hx, t0, t1, t15, t16⟩ hw1 _
 rcases hx with ⟨rfl, rfl, t4, t17⟩ | ⟨rfl, t4, g1, g2, t17⟩
 · rw [ec] at hp
   simp [t0, t1, t4, t15, t16, t17, hp, rs, rc, ca, hl', cs, cc, -alen]
   refine zab (has_clip (by omega) e.id _) ?_
   rintro x h ⟨rfl, rfl⟩
   rw [hid]
   have q1 : H1.next ≠ H1.next + 1 := by omega
   have ap := clip_app (l := l) (e := e) (get := ((H1.push (.cells [.int .u64 e.id, .int .u64 e.view, rowV e.row])).push (.cells [.int .u64 e.id, .int .u64 e.view, rowV e.row])).get) (nx := H1.next + 1 + 1) (q := H1.next + 1) (by omega) (by rw [ec]; simp)
   simp [t0, t1, t4, t15, t16, t17, rs, rc, cs, cc, q1, -zao]
   rw [ap]
   simp [t0, t1, t4, t15, t16, t17]
   have hsn : s < H1.next := by obtain ⟨vs, sv, h1, _⟩ := hs; exact zaa hw1 h1
   have p1 : i ≠ H1.next + 1 + 1 := by omega
   have p2 : s ≠ H1.next + 1 + 1 := by omega
   have p3 : p ≠ H1.next + 1 + 1 := by omega
   have wr : IntKind.i64.wrap 1 = 1 := rfl
   have ln : (entsC (l ++ [e])).length = (l.length + 1) * 3 := by rw [entsC_len]; simp
   refine .inr ⟨H1.next + 1 + 1, entsC (l ++ [e]), by simp, ⟨?_, fun j y hj => frz_old1 hw1 (by omega) hj ?_, ?_, by simp [AV.frz, wr]⟩, by simp [AV.frz, p1], by simp [AV.frz, p2], by simp [AV.frz, p3], by simp [AV.frz]⟩
   · rw [entsV_cons (by simp)]
     simp [AV.frz, <- ln]
   · have := zaa hw1 hj
     have q1 : j ≠ H1.next := by omega
     have q2 : j ≠ H1.next + 1 := by omega
     have q3 : j ≠ H1.next + 1 + 1 := by omega
     simp [q1, q2, q3, hj]
   · simp [AHeap.frz]; omega
 · have k2 := g1 _ _ k1'
   have hv2 := EnF.entsV (l ++ [e])
   have al2 : alen Tryz.prog 48 (entsV (l ++ [e])) = some (.int .i64 (l.length + 1 : Nat)) := by
    rw [hv2.alen (e := 62) (by simp)]; simp
   have al1 : alen Tryz.prog 48 (entsV l) = some (.int .i64 l.length) := hv.alen (e := 62) (by simp)
   have c1 : (l.length : Int) < (l.length : Int) + 1 := by omega
   have ls2 := hv2.sc
   have lc2 := hv2.cells
   simp [t0, t1, t4, t15, t16, t17, k2, ls, lc, al1, al2, ls2, lc2, c1, -alen]
   obtain ⟨H2, hH2⟩ : ∃ H2, H2 = H1.set i (.cells [.int .i64 0, .int .i64 1, .int .u64 1, .int .u64 1, entsV l, .int .i64 l.length, .bool true, .int .i64 0, .map g, .map hh, .nilsl]) := ⟨_, rfl⟩
   rw [<- hH2]
   have ih : i ≠ hh := fun e => by rw [e, hm] at k1; cases k1
   have hi2 : H2.get i = some (.cells [.int .i64 0, .int .i64 1, .int .u64 1, .int .u64 1, entsV l, .int .i64 l.length, .bool true, .int .i64 0, .map g, .map hh, .nilsl]) := by rw [hH2]; simp
   have kk2 : ∀ j y, j ≠ i -> h.get j = some y -> H2.get j = some y := fun j y hj hy => by rw [hH2]; simp [hj, g1 j y hy]
   have n2 : h.next <= H2.next := by rw [hH2]; simp only [AHeap.next_set]; exact g2
   have hs2 : StpAt H2 s L b := hs.keep fun j y hj hy => kk2 j y (by
    rcases hj with rfl | hj
    · exact his.symm
    · exact fun e => hib (e ▸ hj)) hy
   refine zae (take_more (me := 0) (n := 1) (view := 1) (m := [e]) hi2 (by decide) (by decide) hv hv2 (by simp; omega) (by simp) hsm hbg hs2 (by omega) his hib) ?_
   rintro x H3 ⟨rfl, hs3, hi3, k3, n3⟩ hw3 _
   have hm3 := k3 _ _ ih.symm hhs hhb (kk2 _ _ ih.symm hm)
   simp [t0, t1]
   refine zae (settle_one hG hi3 hm3 hv2 (by simp; omega) (by simp)) ?_
   rintro x H4 ⟨rfl, hi4, hm4, k4, n4⟩ hw4 _
   simp [t0, t1]
   refine zae (lay_one (view := 1) hi4 hm4 hv2 (by simp; omega) (by simp)) ?_
   rintro x H5 ⟨rfl, k5, n5⟩ hw5 _
   simp
   refine ⟨by simpa [coC, cL] using k5 _ _ hi4, by simpa using k5 _ _ hm4, ?_, fun j y a1 a2 a3 a4 hy => k5 _ _ (k4 _ _ a1 a2 (k3 _ _ a1 a3 a4 (kk2 _ _ a1 hy))), by omega⟩
   have hin2 := zaa hw k1
   have hhn2 := zaa hw hm
   refine (hs3.keep fun j y hj hy => k5 _ _ (k4 _ _ ?_ ?_ hy)).mono (fun j hj => ?_) ?_
   · rcases hj with rfl | hj | hj
     · exact his.symm
     · exact fun e => hib (e ▸ hj)
     · omega
   · rcases hj with rfl | hj | hj
     · exact hhs.symm
     · exact fun e => hhb (e ▸ hj)
     · omega
   · rcases hj with hj | hj
     · exact .inl hj
     · exact .inr (by omega)
   · obtain ⟨vs, sv, h1, _, _, h4⟩ := hs
     have := zaa hw h1
     rintro (hj | hj)
     · exact h4 hj
     · omega
def core0 (lv : AV) (g hh : Nat) : List AV := [.int .i64 0, .int .i64 1, .int .u64 0, .int .u64 0, lv, .int .i64 0, .bool false, .int .i64 0, .map g, .map hh, .nilsl]
def bsV (l : List Nat) : List AV := l.map fun (b : Nat) => AV.int .u8 (b : Int)
def junk9 : List AV := bsV [0, 0, 0, 0, 0, 0, 0, 0, 0]
def objs0 : List AObj := [.cells [.int .i64 0, .int .i64 1, .int .u64 1, .int .u64 1, .nilsl, .int .i64 0, .bool true, .int .i64 0, .map 46, .map 5, .nilsl], .cells [.sl 45 0 1 2 2 true, .nilsl], .map [], .map [(.int .i64 0, .int .u64 0)],
 .cells [.sl 19 0 1 7 16 false, .sl 42 0 1 7 16 false], .cells (bsV [0, 1, 1, 1, 0, 0, 0] ++ junk9), .cells (bsV [0, 1, 2, 1, 0, 0, 0] ++ junk9)]
theorem begin_raw1 (Q : AV -> List (Option AObj) -> Bool) : heapK [.cells (core0 .nilsl 1 2), .map [], .map [], .cells [.nilsl, .nilsl]] FH.empty (fun H => fcall noOv Tryz.prog G 100000 300 82 [.ptr 0 0, .ptr 3 0] H fun v H' => Q v ([0, 3, 46, 5, 45, 19, 42].map H'.abs.get)) = Q (.tuple []) (objs0.map some) := by kernel_rfl
theorem encU_sm {u : Nat} (h : u < 128) : encU u = [UInt8.ofNat u] := by rw [encU, if_pos h]
theorem rec1 : bV (za4 0 1 1 1 0 0 []) = .vsl (bsV [0, 1, 1, 1, 0, 0, 0]) 7 := by
 simp only [za4, encU_sm (show 0 < 128 by decide), encU_sm (show 1 < 128 by decide), List.length_nil]
 rfl
theorem rec2 : bV (za4 0 1 2 1 0 0 []) = .vsl (bsV [0, 1, 2, 1, 0, 0, 0]) 7 := by
 simp only [za4, encU_sm (show 0 < 128 by decide), encU_sm (show 1 < 128 by decide), encU_sm (show 2 < 128 by decide), List.length_nil]
 rfl
def BegR (H : AHeap) (i s g hh : Nat) (h : AHeap) : Prop := ∃ g' h' q, H.next <= g' /\ H.next <= h' /\ H.next <= q /\ q ≠ g' /\ q ≠ h' /\ h.get i = some (.cells (coC (cL [] []) .nilsl g' h' .nilsl)) /\ h.get g' = some (.map []) /\ h.get h' = some (.map [(.int .i64 0, .int .u64 0)]) /\
 StpAt h s [za4 0 1 1 1 0 0 [], za4 0 1 2 1 0 0 []] (fun x => x = q) /\ (∀ j y, j ≠ i -> j ≠ s -> j ≠ g -> j ≠ hh -> H.get j = some y -> h.get j = some y) /\ H.next <= h.next
theorem begin_does (hG : ∀ g a, G g = some a -> a.idLt 0 = true) {H : AHeap} {i s g hh : Nat} (hi : H.get i = some (.cells (core0 .nilsl g hh))) (hg : H.get g = some (.map [])) (hgg : H.get hh = some (.map [])) (hs : H.get s = some (.cells [.nilsl, .nilsl])) (gh : g ≠ hh) :
  Does Tryz.prog G 82 [.ptr i 0, .ptr s 0] H fun r h => r = .tuple [] /\ BegR H i s g hh h := by
 refine Does.wfs fun hw _ => ?_
 have hin := zaa hw hi
 have hsn := zaa hw hs
 have ig : i ≠ g := fun e => by rw [e, hg] at hi; cases hi
 have ihh : i ≠ hh := fun e => by rw [e, hgg] at hi; cases hi
 have is_ : i ≠ s := fun e => by rw [e, hs] at hi; simp [core0] at hi
 have sg : s ≠ g := fun e => by rw [e, hg] at hs; cases hs
 have sh : s ≠ hh := fun e => by rw [e, hgg] at hs; cases hs
 obtain ⟨ρ, hρ⟩ : ∃ ρ : Nat -> Nat, ρ = fun k => match k with | 0 => i | 1 => g | 2 => hh | _ => s := ⟨_, rfl⟩
 have e0 : ρ 0 = i := by subst hρ; rfl
 have e1 : ρ 1 = g := by subst hρ; rfl
 have e2 : ρ 2 = hh := by subst hρ; rfl
 have e3 : ρ 3 = s := by subst hρ; rfl
 have hinj : ∀ a b, a < 4 -> b < 4 -> ρ a = ρ b -> a = b := by
  intro a b ha hb e
  have ca : a = 0 \/ a = 1 \/ a = 2 \/ a = 3 := by omega
  have cb : b = 0 \/ b = 1 \/ b = 2 \/ b = 3 := by omega
  rcases ca with rfl | rfl | rfl | rfl <;> rcases cb with rfl | rfl | rfl | rfl <;> first | rfl | (simp only [e0, e1, e2, e3] at e; omega)
 have hpt : IsPart (AHeap.ofList [.cells (core0 .nilsl 1 2), .map [], .map [], .cells [.nilsl, .nilsl]]) ρ H := by
  refine ⟨fun k hk => ?_, fun a b ha hb => hinj a b ha hb⟩
  have hk : k < 4 := hk
  have ca : k = 0 \/ k = 1 \/ k = 2 \/ k = 3 := by omega
  rcases ca with rfl | rfl | rfl | rfl
  · refine ⟨_, rfl, ?_⟩
    rw [e0, hi]
    simp [core0, AObj.ren, AV.rens, AV.ren, e1, e2]
  · exact ⟨_, rfl, by rw [e1, hg]; rfl⟩
  · exact ⟨_, rfl, by rw [e2, hgg]; rfl⟩
  · exact ⟨_, rfl, by rw [e3, hs]; rfl⟩
 have hd := part_new (G := G) mixedM plainM (noOv_good _ _) hG (by kernel_rfl) (by kernel_rfl) (by rfl) (begin_raw1 (G := G)) hpt
 have ra : AV.rens ρ [.ptr 0 0, .ptr 3 0] = [.ptr i 0, .ptr s 0] := by simp [AV.rens, AV.ren, e0, e3]
 rw [ra] at hd
 have rn : ∀ k, 4 <= k -> zas ρ 4 H.next k = H.next + (k - 4) := fun k hk => by unfold zas; rw [if_neg (by omega)]
 have r0 : zas ρ 4 H.next 0 = i := by unfold zas; rw [if_pos (by omega), e0]
 have r3 : zas ρ 4 H.next 3 = s := by unfold zas; rw [if_pos (by omega), e3]
 -- as the call leaves it
 have hd1 : Does Tryz.prog G 82 [.ptr i 0, .ptr s 0] H fun r h => r = .tuple [] /\ h.get i = some (.cells (coC (cL [] []) .nilsl (H.next + 42) (H.next + 1) .nilsl)) /\ h.get s = some (.cells [.sl (H.next + 41) 0 1 2 2 true, .nilsl]) /\ h.get (H.next + 42) = some (.map []) /\ h.get (H.next + 1) = some (.map [(.int .i64 0, .int .u64 0)]) /\
   h.get (H.next + 41) = some (.cells [.sl (H.next + 15) 0 1 7 16 false, .sl (H.next + 38) 0 1 7 16 false]) /\ h.get (H.next + 15) = some (.cells (bsV [0, 1, 1, 1, 0, 0, 0] ++ junk9)) /\ h.get (H.next + 38) = some (.cells (bsV [0, 1, 2, 1, 0, 0, 0] ++ junk9)) /\ (∀ j y, j ≠ i -> j ≠ s -> j ≠ g -> j ≠ hh -> H.get j = some y -> h.get j = some y) /\ H.next <= h.next := by
  refine hd.mono ?_
  rintro x h ⟨rfl, f1, f2, f3⟩
  have l4 : ([.cells (core0 .nilsl 1 2), .map [], .map [], .cells [.nilsl, .nilsl]] : List AObj).length = 4 := rfl
  rw [l4] at f1
  have g0 := f1 0 (by decide)
  have g1 := f1 1 (by decide)
  have g2 : h.get (zas ρ 4 H.next 46) = some (.map []) := f1 2 (by decide)
  have g3 : h.get (zas ρ 4 H.next 5) = some (.map [(.int .i64 0, .int .u64 0)]) := f1 3 (by decide)
  have g4 := f1 4 (by decide)
  have g5 : h.get (zas ρ 4 H.next 19) = some (.cells (bsV [0, 1, 1, 1, 0, 0, 0] ++ junk9)) := f1 5 (by decide)
  have g6 : h.get (zas ρ 4 H.next 42) = some (.cells (bsV [0, 1, 2, 1, 0, 0, 0] ++ junk9)) := f1 6 (by decide)
  simp [objs0, AObj.ren, AV.rens, AV.ren, rn, r0, r3] at g0 g1 g4
  rw [rn _ (by omega)] at g2 g3 g5 g6
  refine ⟨rfl, by simpa [coC, cL] using g0, g1, g2, g3, g4, g5, g6, fun j y a1 a2 a3 a4 hy => f2 j y (fun k hk => ?_) hy, f3⟩
  have hk : k < 4 := hk
  have ca : k = 0 \/ k = 1 \/ k = 2 \/ k = 3 := by omega
  rcases ca with rfl | rfl | rfl | rfl
  · rw [e0]; exact a1.symm
  · rw [e1]; exact a3.symm
  · rw [e2]; exact a4.symm
  · rw [e3]; exact a2.symm
 clear hd
 -- both texts are taken as frozen
 refine Does.frz1 (Does.frz1 hd1 (R' := fun r h => r = .tuple [] /\ h.get i = some (.cells (coC (cL [] []) .nilsl (H.next + 42) (H.next + 1) .nilsl)) /\ h.get s = some (.cells [.sl (H.next + 41) 0 1 2 2 true, .nilsl]) /\ h.get (H.next + 42) = some (.map []) /\ h.get (H.next + 1) = some (.map [(.int .i64 0, .int .u64 0)]) /\
   h.get (H.next + 41) = some (.cells [bV (za4 0 1 1 1 0 0 []), .sl (H.next + 38) 0 1 7 16 false]) /\ h.get (H.next + 38) = some (.cells (bsV [0, 1, 2, 1, 0, 0, 0] ++ junk9)) /\ (∀ j y, j ≠ i -> j ≠ s -> j ≠ g -> j ≠ hh -> H.get j = some y -> h.get j = some y) /\ H.next <= h.next) ?_) ?_
 · rintro hw1 _ r h ⟨rfl, f0, f1, f2, f3, f4, f5, f6, f7, f8⟩
   refine ⟨H.next + 15, _, by omega, f5, rfl, ?_, ?_, ?_, ?_, ?_, ?_, fun j y a1 a2 a3 a4 hy => frz_old1 hw (by omega) hy (f7 j y a1 a2 a3 a4 hy), by simp only [AHeap.frz]; exact f8⟩
   · rw [frz_get f0 (by omega)]; rfl
   · rw [frz_get f1 (by omega)]
     have : H.next + 41 ≠ H.next + 15 := by omega
     simp [AV.frzs, AV.frz, this]
   · simp [AHeap.frz, f2]
   · simp [AHeap.frz, f3, AV.frz]
   · rw [frz_get f4 (by omega)]
     have : H.next + 38 ≠ H.next + 15 := by omega
     rw [rec1]
     simp only [AV.frzs, AV.frz, if_true, if_neg this]
     rfl
   · rw [frz_get f6 (by omega)]; rfl
 · rintro hw1 _ r h ⟨rfl, f0, f1, f2, f3, f4, f6, f7, f8⟩
   refine ⟨H.next + 38, _, by omega, f6, rfl, H.next + 42, H.next + 1, H.next + 41, by omega, by omega, by omega, by omega, by omega, ?_, ?_, ?_, ⟨[bV (za4 0 1 1 1 0 0 []), bV (za4 0 1 2 1 0 0 [])], .sl (H.next + 41) 0 1 2 2 true, ?_, .inr ⟨H.next + 41, 0, 2, true, [], [], rfl, rfl, ?_, rfl, rfl, rfl, Nat.le_refl _⟩, .cons (.bV _) (.cons (.bV _) .nil), by omega⟩, fun j y a1 a2 a3 a4 hy => frz_old1 hw (by omega) hy (f7 j y a1 a2 a3 a4 hy), by simp only [AHeap.frz]; exact f8⟩
   · rw [frz_get f0 (by omega)]; rfl
   · simp [AHeap.frz, f2]
   · simp [AHeap.frz, f3, AV.frz]
   · rw [frz_get f1 (by omega)]
     have : H.next + 41 ≠ H.next + 38 := by omega
     simp [AV.frzs, AV.frz, this]
   · rw [frz_get f4 (by omega)]
     rw [rec1, rec2]
     simp only [AV.frzs, AV.frz, if_true]
     rfl
def Led (H : AHeap) (i g hh : Nat) (l : List En) : Prop := H.get i = some (.cells (coC (cL l []) (entsV l) g hh .nilsl)) /\ H.get g = some (.map []) /\ H.get hh = some (.map [(.int .i64 0, .int .u64 l.length)])
def Fre (H : AHeap) (i g hh : Nat) : Prop := H.get i = some (.cells (core0 .nilsl g hh)) /\ H.get g = some (.map []) /\ H.get hh = some (.map []) /\ g ≠ hh
def saves (fst : Bool) (e : En) : List Bs := (if fst = true then [za4 0 1 1 1 0 0 [], za4 0 1 2 1 0 0 []] else []) ++ [za4 0 1 3 0 0 0 [e]]
def SubR (H : AHeap) (i g hh : Nat) (fst : Bool) (l : List En) (e : En) (r : AV) (h : AHeap) : Prop := ∃ sv vs g' h', r = .agg [sv, .nilsl] /\ Gr h 1 (saves fst e).length vs sv (fun x => H.next <= x) /\ Bts vs (saves fst e) /\ Led h i g' h' (l ++ [e]) /\ (g' = g \/ H.next <= g') /\ (h' = hh \/ H.next <= h') /\
 (∀ j y, j ≠ i -> j ≠ g -> j ≠ hh -> H.get j = some y -> h.get j = some y) /\ H.next <= h.next
theorem coSubmit_one (hG : ∀ g a, G g = some a -> a.idLt 0 = true) {H : AHeap} {i g hh : Nat} {fst : Bool} {l : List En} (hc : if fst = true then Fre H i g hh /\ l = [] else Led H i g hh l) {id : Nat} {v : AV} {row : Option (List Int)} (hv : RowA v row) (hsm : ∀ x ∈ l ++ [⟨id, 0, row⟩], EnSm x) (hm : may ⟨id, 0, row⟩ = true)
  (hid : hasId l id = false) (hl : l.length < 200) (hbg : begins (l ++ [⟨id, 0, row⟩]) l = true) :
  Does Tryz.prog G 46 [.ptr i 0, .int .u64 id, v] H (SubR H i g hh fst l ⟨id, 0, row⟩) := by
 refine Does.wf Tryz.call46 fun hw _ => ?_
 have hre : (row.getD []).length <= 64 := (hsm ⟨id, 0, row⟩ (by simp)).2
 have rx := RowA.rowV row
 have rs := rx.sc
 have rc := rx.cells
 refine zad Tryz.call46 Tryz.func46 rfl (by simp [Tryz.f46]) ?_
 simp
 refine zab (cloneRow_does hv (by omega) _) ?_
 rintro r h0 ⟨rfl, hh0⟩
 subst hh0
 obtain ⟨H1, hH1⟩ : ∃ H1, H1 = (((H.push (.cells [.nilsl, .nilsl])).push (.cells [.nilsl, .nilsl])).push (.cells [.int .u64 0, .int .u64 0, .nilsl])).set (H.next + 1 + 1) (.cells [.int .u64 id, .int .u64 0, rowV row]) := ⟨_, rfl⟩
 have k1 : ∀ j y, H.get j = some y -> H1.get j = some y := fun j y hy => by
  have := zaa hw hy
  have p1 : j ≠ H.next := by omega
  have p2 : j ≠ H.next + 1 := by omega
  have p3 : j ≠ H.next + 1 + 1 := by omega
  rw [hH1]; simp [p1, p2, p3, hy]
 have n1 : H1.next = H.next + 1 + 1 + 1 := by rw [hH1]; rfl
 have s1 : H1.get (H.next + 1) = some (.cells [.nilsl, .nilsl]) := by
  have : H.next + 1 ≠ H.next + 1 + 1 := by omega
  rw [hH1]; simp [this]
 have r1 : H1.get H.next = some (.cells [.nilsl, .nilsl]) := by
  have p2 : H.next ≠ H.next + 1 := by omega
  have p3 : H.next ≠ H.next + 1 + 1 := by omega
  rw [hH1]; simp [p2, p3]
 have e1 : H1.get (H.next + 1 + 1) = some (.cells [.int .u64 id, .int .u64 0, rowV row]) := by rw [hH1]; simp
 have hin : i < H.next := by
  cases fst with
  | true => exact zaa hw hc.1.1
  | false => exact zaa hw hc.1
 have hgn : g < H.next /\ hh < H.next := by
  cases fst with
  | true => exact ⟨zaa hw hc.1.2.1, zaa hw hc.1.2.2.1⟩
  | false => exact ⟨zaa hw hc.2.1, zaa hw hc.2.2⟩
 obtain ⟨hgn, hhn⟩ := hgn
 have lt1 : ∀ j y, H1.get j = some y -> j < H1.next := fun j y hy => by
  by_cases e : j = H.next + 1 + 1
  · omega
  · rw [hH1] at hy
    simp only [AHeap.get_set, if_neg e] at hy
    have := push_lt (push_lt (push_lt (fun j x => zaa hw) _) _) _ _ _ hy
    simp only [AHeap.next_push] at this
    omega
 have qi0 : i ≠ H.next := by omega
 have qi : i ≠ H.next + 1 := by omega
 have qi2 : i ≠ H.next + 1 + 1 := by omega
 have ha : hasId [] id = false := rfl
 cases fst
 case' false =>
  obtain ⟨c1, c2, c3⟩ := hc
  have c1' := c1
  simp only [coC, cL] at c1'
  simp [rs, rc, c1', qi0, qi, qi2]
  rw [<- hH1]
  obtain ⟨H2, hH2⟩ : ∃ H2, H2 = H1 := ⟨_, rfl⟩
  rw [<- hH2]
  obtain ⟨g', h', S0, q, dq0, dq1, dq2, dq3, dS0, d1, d2, d3, d4, d5, d6, d7, d8, dS⟩ : ∃ g' h' S0 q, H1.next <= q /\ q ≠ i /\ q ≠ g' /\ q ≠ h' /\ S0.length <= 2 /\ H2.get i = some (.cells (coC (cL l []) (entsV l) g' h' .nilsl)) /\ H2.get g' = some (.map []) /\ H2.get h' = some (.map [(.int .i64 0, .int .u64 l.length)]) /\ StpAt H2 (H.next + 1) S0 (fun x => x = q) /\ (g' = g \/ H.next <= g') /\ (h' = hh \/ H.next <= h') /\
    (∀ j y, j ≠ i -> j ≠ g -> j ≠ hh -> j ≠ H.next + 1 -> H1.get j = some y -> H2.get j = some y) /\ H1.next <= H2.next /\ saves false ⟨id, 0, row⟩ = S0 ++ [za4 0 1 3 0 0 0 [⟨id, 0, row⟩]] /\ (g' ≠ H.next /\ g' ≠ H.next + 1) /\ (h' ≠ H.next /\ h' ≠ H.next + 1) := by
   have q1 := zaa hw c2
   have q2 := zaa hw c3
   rw [hH2]
   exact ⟨g, hh, [], H1.next, Nat.le_refl _, by omega, by omega, by omega, by simp, k1 _ _ c1, k1 _ _ c2, k1 _ _ c3, ⟨[], .nilsl, s1, .inl ⟨rfl, rfl, rfl⟩, .nil, by omega⟩, .inl rfl, .inl rfl, fun j y _ _ _ _ hy => hy, Nat.le_refl _, rfl, by omega, by omega⟩
 case' true =>
  obtain ⟨⟨c1, c2, c3, c4⟩, rfl⟩ := hc
  have c1' := c1
  simp only [core0] at c1'
  simp [rs, rc, c1', qi0, qi, qi2]
  rw [<- hH1]
  refine zae (begin_does hG (k1 _ _ c1) (k1 _ _ c2) (k1 _ _ c3) s1 c4) ?_
  rintro x H2 ⟨rfl, g', h', q, f1, f2, dq0, dq2, dq3, f3, f4, f5, f6, f7, f8⟩ hw2 _
  have e2 := f7 _ _ (by omega) (by omega) (by have := zaa hw c2; omega) (by have := zaa hw c3; omega) e1
  obtain ⟨S0, d1, d2, d3, d4, d5, d6, d7, d8, dS⟩ : ∃ S0, H2.get i = some (.cells (coC (cL [] []) (entsV []) g' h' .nilsl)) /\ H2.get g' = some (.map []) /\ H2.get h' = some (.map [(.int .i64 0, .int .u64 ([] : List En).length)]) /\ StpAt H2 (H.next + 1) S0 (fun x => x = q) /\ (g' = g \/ H.next <= g') /\ (h' = hh \/ H.next <= h') /\
    (∀ j y, j ≠ i -> j ≠ g -> j ≠ hh -> j ≠ H.next + 1 -> H1.get j = some y -> H2.get j = some y) /\ H1.next <= H2.next /\ saves true ⟨id, 0, row⟩ = S0 ++ [za4 0 1 3 0 0 0 [⟨id, 0, row⟩]] /\ (g' ≠ H.next /\ g' ≠ H.next + 1) /\ (h' ≠ H.next /\ h' ≠ H.next + 1) :=
   ⟨_, f3, f4, f5, f6, .inr (by omega), .inr (by omega), fun j y a1 a2 a3 a4 hy => f7 j y a1 a4 a2 a3 hy, f8, rfl, by omega, by omega⟩
  simp [e2, rs, rc]
  have dq1 : q ≠ i := by omega
  have dS0 : S0.length <= 2 := by
   have := congrArg List.length dS.1
   simp [saves] at this
   omega
 all_goals
  obtain ⟨dS, ⟨dg0, dg1⟩, dh0, dh1⟩ := dS
  have gi : g' ≠ i := fun e => by rw [e, d1] at d2; cases d2
  have hi : h' ≠ i := fun e => by rw [e, d1] at d3; cases d3
  refine zae (wanted_one (e := ⟨id, 0, row⟩) d1 (EnF.entsV _) (by first | omega | simp) hm hid (by show (row.getD []).length <= 1000000; omega)) ?_
  rintro x H3 ⟨rfl, p, hp, w1, w2, w3, w4⟩ hw3 _
  simp
  refine zae (grow_led hG w1 (w3 _ _ hi d3) w2 hid hl hsm hbg (d4.keep fun j y hj hy => w3 j y (by rcases hj with rfl | rfl <;> omega) hy) (by omega) qi (by omega) dh1 (by omega)) ?_
  rintro x H4 ⟨rfl, u1, u2, ⟨vs, sv, u3, u4, u5, u6⟩, u7, u8⟩ hw4 _
  have us := u4.sc
  have uc := u4.cells
  have lt0 : H.next < H4.next := by omega
  have keep : ∀ j y, j ≠ i -> j ≠ g -> j ≠ hh -> j ≠ H.next + 1 -> j ≠ h' -> H1.get j = some y -> H4.get j = some y := fun j y a1 a2 a3 a4 a5 hy => u7 j y a1 a5 a4 (fun e => by
   have := lt1 j y hy
   omega) (w3 _ _ a1 (d7 j y a1 a2 a3 a4 hy))
  have r4 := keep _ _ (by omega) (by omega) (by omega) (by omega) (by omega) r1
  have sn : H.next ≠ H.next + 1 := by omega
  simp [u3, us, uc, r4]
  have old : ∀ j y, j ≠ H.next -> H4.get j = some y -> (H4.set H.next (.cells [sv, .nilsl])).get j = some y := fun j y hj hy => by simp [hj, hy]
  refine ⟨sv, vs, g', h', rfl, ?_, by rw [dS]; exact u5, ⟨old _ _ (by omega) (by simpa using u1), old _ _ dg0 (by
   by_cases e : g' = h'
   · rw [e, d3] at d2; cases d2
   · exact u7 _ _ gi e dg1 dq2.symm (w3 _ _ gi d2)), old _ _ dh0 (by simpa using u2)⟩, d5, d6, fun j y a1 a2 a3 hy => ?_, by simp only [AHeap.next_set]; omega⟩
  · rw [dS]
    refine (u4.keep fun x y hx hy => old x y ?_ hy).mono fun x hx => ?_ <;> rcases hx with rfl | hx <;> omega
  · have := zaa hw hy
    refine old _ _ (by omega) (keep _ _ a1 a2 a3 (by omega) ?_ (k1 _ _ hy))
    rcases d6 with e | e
    · rw [e]; exact a3
    · omega
structure DkR (d : Dk) (R : List Bs) : Prop where
 ok : dkOk d
 on : d.off = false
 fuse : d.fuse = 0
 log : d.f0.now = frames 0 (texts 0 R)
 a : d.f1 = Fl.new
 b : d.f2 = Fl.new
theorem append_zero {d : Dk} (ho : d.off = false) (hf : d.fuse = 0) {b : Bs} (hb : (d.f0.now ++ b).length <= 262144) : (d.append 0 b).2 = d.setF 0 { d.f0 with now := d.f0.now ++ b } := by
 have h1 : ¬ 262144 < b.length := by rw [List.length_append] at hb; omega
 have h2 : ¬ 262144 < ((d.file 0).now ++ b).length := by show ¬ 262144 < (d.f0.now ++ b).length; omega
 simp only [Dk.append, ho, Bool.false_eq_true, if_false, if_neg h1, Dk.change, if_neg h2, Dk.blown, hf, if_true, Bool.or_false]
 rfl
theorem lt_le {i : Nat} {b : Bs} (hi : i < 1000) (hb : b.length <= 1000) : (lt i b).length <= 1020 := by
 have l1 := zan (u := i + 1) (by omega)
 have l2 := zan (u := b.length) (by omega)
 simp only [lt, encS, List.length_append]
 omega
theorem texts_le : ∀ {R : List Bs} {i : Nat}, i + R.length <= 1000 -> (∀ b ∈ R, b.length <= 1000) -> lens (texts i R) <= 1020 * R.length /\ (frames i (texts i R)).length <= 1037 * R.length
 | [], i, _, _ => by simp [texts, lens, frames]
 | b :: R, i, hi, h => by
   simp only [List.length_cons] at hi
   have h1 := texts_le (R := R) (i := i + 1) (by omega) fun x hx => h x (by simp [hx])
   have h2 := lt_le (i := i) (b := b) (by omega) (h b (by simp))
   have h3 := frame_len i (lt i b)
   simp only [texts, lens, List.map_cons, List.sum_cons, frames, List.length_append, List.length_cons] at h1 ⊢
   omega
theorem texts_snoc (R : List Bs) (b : Bs) : texts 0 (R ++ [b]) = texts 0 R ++ [lt R.length b] := by
 rw [texts_append]; simp [texts]
theorem DkR.append {d : Dk} {R : List Bs} (h : DkR d R) {b : Bs} (hR : R.length < 60) (hb : ∀ x ∈ R ++ [b], x.length <= 1000) : DkR (d.append 0 (frame R.length (lt R.length b))).2 (R ++ [b]) /\ (d.append 0 (frame R.length (lt R.length b))).2.lives = d.lives := by
 obtain ⟨h1, h2, h3, h4, h5, h6⟩ := h
 have e : d.f0.now ++ frame R.length (lt R.length b) = frames 0 (texts 0 (R ++ [b])) := by
  rw [h4, texts_snoc, frames_append, texts_len]
  simp [frames]
 have hl := (texts_le (R := R ++ [b]) (i := 0) (by simp; omega) hb).2
 have hl2 : (frames 0 (texts 0 (R ++ [b]))).length <= 262144 := by simp only [List.length_append, List.length_singleton] at hl; omega
 rw [append_zero h2 h3 (by rw [e]; exact hl2), e]
 refine ⟨⟨dkOk_setF h1 0 hl2 (synced_len h1 0), by simp [Dk.setF, h2], by simp [Dk.setF, h3], by simp [Dk.setF], by simp [Dk.setF, h5], by simp [Dk.setF, h6]⟩, by simp [Dk.setF]⟩
theorem DkR.sync {d : Dk} {R : List Bs} (h : DkR d R) : DkR (d.sync 0).2 R /\ (d.sync 0).2.lives = d.lives /\ (d.sync 0).2.f0.synced = (d.sync 0).2.f0.now := by
 obtain ⟨h1, h2, h3, h4, h5, h6⟩ := h
 rw [sync_zero h2 h3]
 exact ⟨⟨dkOk_setF h1 0 (file_len h1 0) (file_len h1 0), by simp [Dk.setF, h2], by simp [Dk.setF, h3], by simpa [Dk.setF, Fl.settle, Dk.file] using h4, by simp [Dk.setF, h5], by simp [Dk.setF, h6]⟩, by simp [Dk.setF], by simp [Dk.setF, Fl.settle]⟩
def kpC (c0 : AV) (k gl : Nat) (c3 c4 : AV) (R : List Bs) (e : List AV) : List AV := c0 :: .ptr k 0 :: .ptr gl 0 :: c3 :: c4 :: .int .u64 R.length :: .int .i64 (lens (texts 0 R)) :: e
def LkAt (H : AHeap) (gl k : Nat) (lives : Int) (R : List Bs) (b : Nat -> Prop) (sd : Bool) : Prop := ∃ lv sy d, LgAt H gl k lv ⟨texts 0 R, sy, lives, false⟩ /\ DkAt H k d /\ DkR d R /\ d.lives = lives /\ (∀ i op, lv = .sl i 0 1 (texts 0 R).length (texts 0 R).length op -> b i) /\ (sd = true -> d.f0.synced = d.f0.now)
theorem LkAt.keep {H H' : AHeap} {gl k : Nat} {lives : Int} {R : List Bs} {b : Nat -> Prop} {sd : Bool} (h : LkAt H gl k lives R b sd) (hk : ∀ j y, j = gl \/ j = k \/ b j -> H.get j = some y -> H'.get j = some y) : LkAt H' gl k lives R b sd := by
 obtain ⟨lv, sy, d, ⟨h1, h2⟩, ⟨cs, h3, h4⟩, h5, h6, h7, h8⟩ := h
 refine ⟨lv, sy, d, ⟨hk _ _ (.inl rfl) h1, h2.keep fun i op e => ?_⟩, ⟨cs, h3, hk _ _ (.inr (.inl rfl)) h4⟩, h5, h6, h7, h8⟩
 rcases h2 with ⟨h', _⟩ | ⟨i', op', vs, h', hg, _⟩
 · rw [h'] at e; cases e
 · have hb := h7 i op e
   rw [e] at h'; cases h'
   rw [hg, hk _ _ (.inr (.inr hb)) hg]
theorem LkAt.mono {H : AHeap} {gl k : Nat} {lives : Int} {R : List Bs} {b b' : Nat -> Prop} {sd : Bool} (h : LkAt H gl k lives R b sd) (hb : ∀ j, b j -> b' j) : LkAt H gl k lives R b' sd := by
 obtain ⟨lv, sy, d, h1, h2, h3, h4, h5, h6⟩ := h
 exact ⟨lv, sy, d, h1, h2, h3, h4, fun i op e => hb i (h5 i op e), h6⟩
theorem LkAt.weak {H : AHeap} {gl k : Nat} {lives : Int} {R : List Bs} {b : Nat -> Prop} {sd : Bool} (h : LkAt H gl k lives R b sd) : LkAt H gl k lives R b false := by
 obtain ⟨lv, sy, d, h1, h2, h3, h4, h5, h6⟩ := h
 exact ⟨lv, sy, d, h1, h2, h3, h4, h5, fun h => by cases h⟩
theorem keep_does {H : AHeap} {r k gl : Nat} {lives : Int} {c0 c3 c4 : AV} {e : List AV} {R L : List Bs} {b bs : Nat -> Prop} {sv : AV} {vs : List AV} (hr : H.get r = some (.cells (kpC c0 k gl c3 c4 R e))) (he : e.length = 7) {sd : Bool} (hlk : LkAt H gl k lives R b sd) (hsv : Gr H 1 L.length vs sv bs) (hvs : Bts vs L)
  (h0 : 0 < L.length) (hN : R.length + L.length <= 60) (hb : ∀ x ∈ R ++ L, x.length <= 1000) (hne : ∀ x ∈ L, x ≠ []) (hrb : ¬ b r) (hbs : ∀ x, bs x -> x ≠ r /\ x ≠ gl /\ x ≠ k /\ ¬ b x) (rgl : r ≠ gl) (rk : r ≠ k) (gk : gl ≠ k) :
  Does Tryz.prog G 80 [.ptr r 0, sv] H fun x h => x = .int .i64 0 /\ h.get r = some (.cells (kpC c0 k gl c3 c4 (R ++ L) e)) /\ LkAt h gl k lives (R ++ L) (fun x => b x \/ H.next <= x) true /\ (∀ j y, j ≠ r -> j ≠ gl -> j ≠ k -> ¬ b j -> H.get j = some y -> h.get j = some y) /\ H.next <= h.next := by
 refine Does.wf Tryz.call80 fun hw _ => ?_
 have hrr : ∃ e0 e1 e2 e3 e4 e5 e6, e = [e0, e1, e2, e3, e4, e5, e6] := by
  match e, he with
  | [a, b, c, d, e, f, g], _ => exact ⟨a, b, c, d, e, f, g, rfl⟩
 obtain ⟨e0, e1, e2, e3, e4, e5, e6, rfl⟩ := hrr
 have hal : alen Tryz.prog 87 sv = some (.int .i64 L.length) := hsv.alen (e := 22) (by simp)
 have svs := hsv.sc
 have svc := hsv.cells
 refine zad Tryz.call80 Tryz.func80 rfl (by simp [Tryz.f80]) ?_
 simp [hal, svs, svc, -alen]
 rcases hsv with ⟨hz, _⟩ | ⟨p, o, cap, op, pre, junk, rfl, b2, b3, b4, b5, b6, b7⟩
 · omega
 obtain ⟨bp1, bp2, bp3, bp4⟩ := hbs p b2
 have hpn := zaa hw b3
 refine zai (fun m T' H' => ∃ j, j + m = L.length /\ H'.get r = some (.cells (kpC c0 k gl c3 c4 (R ++ L.take j) [e0, e1, e2, e3, e4, e5, e6])) /\ LkAt H' gl k lives (R ++ L.take j) (fun x => b x \/ H.next <= x) false /\ (∀ j y, j ≠ r -> j ≠ gl -> j ≠ k -> ¬ b j -> H.get j = some y -> H'.get j = some y) /\ H.next <= H'.next /\
   T' 0 = .ptr r 0 /\ T' 1 = .sl p o 1 L.length cap op /\ T' 9 = .sl p o 1 L.length cap op /\ T' 10 = .int .i64 L.length /\ T' 11 = .int .i64 j) L.length ?_ ?_
 · refine ⟨0, by simp, by simpa using hr, by simpa using (hlk.mono fun j hj => .inl hj).weak, fun j y _ _ _ _ hy => hy, Nat.le_refl _, ?_, ?_, ?_, ?_, ?_⟩ <;> simp
 rintro m T H1 ⟨j, hjm, hr1, hlk1, hk1, hn1, t0, t1, t9, t10, t11⟩ hw1 _
 have hr1' := hr1
 simp only [kpC] at hr1'
 by_cases hj : j < L.length
 case neg =>
  obtain rfl : j = L.length := by omega
  have hjj : ¬ (L.length : Int) = 0 := by omega
  rw [List.take_length] at *
  obtain ⟨lv, sy, d, g1, g2, g3, g4, g5, _⟩ := hlk1
  have glr : gl ≠ r := rgl.symm
  have hLn : L ≠ [] := fun e => by rw [e] at h0; simp at h0
  simp [t0, t1, t9, t10, t11, hjj, hr1', hLn]
  refine zab (lgSync_does g1 g2 rfl g3.on g3.ok g3.fuse gk g4) ?_
  rintro x h2 ⟨rfl, u1, u2, u3, u4⟩
  simp
  obtain ⟨v1, v2, v3⟩ := g3.sync
  refine ⟨by rw [u4 r rgl rk]; exact hr1, ⟨lv, _, _, u1, u2, v1, v2.trans g4, g5, fun _ => v3⟩, fun j y a1 a2 a3 a4 hy => by rw [u4 j a2 a3]; exact hk1 j y a1 a2 a3 a4 hy, by omega⟩
 have hjj : (j : Int) < L.length := by omega
 obtain ⟨x, hx⟩ : ∃ x, L[j]? = some x := ⟨_, List.getElem?_eq_getElem hj⟩
 obtain ⟨xv, hxv, hxa⟩ := hvs.get hx
 have b3' := hk1 _ _ bp1 bp2 bp3 bp4 b3
 have hvl : vs.length = L.length := by rw [b5]; simp
 have hix : (pre ++ (vs ++ junk))[o + j]? = some xv := by
  rw [List.getElem?_append_right (by omega), List.getElem?_append_left (by omega), <- b4]
  simpa using hxv
 have hox : o + j < (pre ++ (vs ++ junk)).length := by simp only [List.length_append]; omega
 have hox2 : o + j <= (pre ++ (vs ++ junk)).length := by omega
 have hxs : xv.scalar = true := by rcases hxa with ⟨rfl, _⟩ | ⟨ts, rfl⟩ <;> rfl
 have hxc : xv.cells = [xv] := by rcases hxa with ⟨rfl, _⟩ | ⟨ts, rfl⟩ <;> rfl
 have hRl : (R ++ L.take j).length = R.length + j := by rw [List.length_append, List.length_take]; omega
 obtain ⟨N, hNN⟩ : ∃ N, N = R.length + j := ⟨_, rfl⟩
 rw [<- hNN] at hRl
 rw [hRl] at hr1'
 have wu : IntKind.u64.wrap ((N : Int) + 1) = ((N + 1 : Nat) : Int) := by rw [IntWalk.u64_in _ (by omega)]; omega
 have htk : L.take (j + 1) = L.take j ++ [x] := by rw [List.take_add_one, hx]; rfl
 have hxl : x.length <= 1000 := hb x (List.mem_append.2 (.inr (List.mem_of_getElem? hx)))
 generalize hCC : pre ++ (vs ++ junk) = CC at *
 simp [t0, t1, t9, t10, t11, hj, hjj, b3', hix, hox, hox2, hxs, hxc]
 have hgx : CC[o + j]'hox = xv := (List.getElem?_eq_some_iff.1 hix).2
 have ab := zaN x
 have tk : List.take x.length (strCs x) = strCs x := by rw [<- zac, List.take_length]
 refine zam [(3, 0), (7, 0), (7, 6)] zag (by kernel_rfl) ?_
 intro es hes
 simp [zak, -zal, t0, t1, hr1', hxs, hxc, wu]
 refine ⟨_, _, zaQ (u := N + 1) (by omega) .nil (by simp) _, Nat.le_refl _, ?_⟩
 refine ad_go (fun T' => T' 0 = .ptr r 0 /\ T' 1 = .sl p o 1 L.length cap op /\ T' 9 = .sl p o 1 L.length cap op /\ T' 10 = .int .i64 L.length /\ T' 11 = .int .i64 j /\ T' 6 = xv /\ T' 20 = bV (encU (N + 1))) (by simp [t0, t1, t9, t10, t11, hgx]) ?_
 rintro T1 ⟨t0, t1, t9, t10, t11, t6, t20⟩
 have lu := zan (u := N + 1) (by omega)
 rcases hxa with ⟨_, h⟩ | ⟨ts, rfl⟩
 · exact absurd h (hne x (List.mem_of_getElem? hx))
 have tk2 : List.take x.length (strCs x ++ ts) = strCs x := List.take_left' (zac x)
 have le2 : x.length <= (strCs x ++ ts).length := by rw [List.length_append, zac]; omega
 simp [zak, -zal, t0, t1, t9, t10, t11, t6, t20, ab, tk2, le2, zac, -abytes]
 refine ⟨_, _, packS_does (s := x) (by omega) (.bV (encU (N + 1))) (by omega) _, Nat.le_refl _, ?_⟩
 refine ad_go (fun T' => T' 0 = .ptr r 0 /\ T' 1 = .sl p o 1 L.length cap op /\ T' 9 = .sl p o 1 L.length cap op /\ T' 10 = .int .i64 L.length /\ T' 11 = .int .i64 j /\ T' 23 = bV (lt N x)) (by simp [t0, t1, t9, t10, t11]; rfl) ?_
 rintro T2 ⟨t0, t1, t9, t10, t11, t23⟩
 have llt := lt_le (i := N) (b := x) (by omega) hxl
 obtain ⟨lv, sy, d, g1, g2, g3, g4, g5, _⟩ := hlk1
 have tl : (texts 0 (R ++ L.take j)).length = N := by rw [texts_len, hRl]
 have hfl := (texts_le (R := R ++ L.take j) (i := 0) (by omega) fun y hy => hb y (by
  rcases List.mem_append.1 hy with hy | hy
  · exact List.mem_append.2 (.inl hy)
  · exact List.mem_append.2 (.inr (List.mem_of_mem_take hy)))).2
 have hb' : ∀ y ∈ (R ++ L.take j) ++ [x], y.length <= 1000 := fun y hy => by
  rcases List.mem_append.1 hy with hy | hy
  · rcases List.mem_append.1 hy with hy | hy
    · exact hb y (List.mem_append.2 (.inl hy))
    · exact hb y (List.mem_append.2 (.inr (List.mem_of_mem_take hy)))
  · rw [List.mem_singleton.1 hy]; exact hxl
 rw [hRl] at hfl
 simp [zak, -zal, t0, t1, t9, t10, t11, t23, hr1']
 refine ⟨by subst hes; exact ⟨by kernel_rfl, by kernel_rfl⟩, by simp [rds, heapF, hr1', ab, tk2, le2, zac, -abytes], ?_⟩
 refine zae (lgAdd_does g1 g2 rfl g3.on g3.fuse gk g4 (.bV (lt N x)) (by omega) (by rw [g3.log]; omega) (by simp only; omega)) ?_
 rintro y H2 ⟨rfl, q, u1, u2, u3, u4⟩ hw2 _
 simp only [tl] at u1 u3
 have hr2 := u4 r _ rgl rk (fun op e => hrb (by
  have := g5 r op (by rw [tl] at e ⊢; exact e)
  rcases this with h | h
  · exact h
  · have := zaa hw hr; omega)) hr1'
 have eR : R ++ L.take (j + 1) = (R ++ L.take j) ++ [x] := by rw [htk, List.append_assoc]
 have eT : texts 0 (R ++ L.take (j + 1)) = texts 0 (R ++ L.take j) ++ [lt N x] := by rw [eR, texts_snoc, hRl]
 have eL : lens (texts 0 (R ++ L.take (j + 1))) = lens (texts 0 (R ++ L.take j)) + (lt N x).length := by rw [eT, lens_append]; simp [lens]
 have hle := (texts_le (R := R ++ L.take j) (i := 0) (by omega) fun y hy => hb' y (List.mem_append.2 (.inl hy))).1
 rw [hRl] at hle
 have wb : IntKind.i64.wrap ((lens (texts 0 (R ++ L.take j)) : Int) + (lt N x).length) = (lens (texts 0 (R ++ L.take (j + 1))) : Nat) := by rw [eL, IntWalk.i64_in _ (by omega)]; omega
 have wr : IntKind.i64.wrap ((j : Int) + 1) = ((j + 1 : Nat) : Int) := by rw [IntWalk.i64_in _ (by omega)]; omega
 obtain ⟨v1, v2⟩ := g3.append (b := x) (by omega) hb'
 rw [hRl] at v1 v2
 simp [t0, t1, t9, t10, t11, t23, hr2, wu, wb, bV_alen, -alen]
 have rq : r ≠ q := by have := zaa hw1 hr1; omega
 have hqn : q < H2.next := by
  rcases u1.2 with ⟨h, _⟩ | ⟨i', op', vs', h, hg, _⟩
  · cases h
  · simp only [AV.sl.injEq] at h; rw [h.1]; exact zaa hw2 hg
 have hN1 : (R ++ L.take (j + 1)).length = N + 1 := by rw [eR, List.length_append, hRl]; rfl
 refine ⟨m - 1, by omega, j + 1, by omega, by simp only [kpC, hN1]; simp, ?_, fun j' y a1 a2 a3 a4 hy => ?_, by omega, by simpa using wr⟩
 · have tl2 : (texts 0 (R ++ L.take (j + 1))).length = N + 1 := by rw [texts_len, hN1]
   have kk : ∀ (cs : List AV) j' y, j' ≠ r -> H2.get j' = some y -> (H2.set r (.cells cs)).get j' = some y := fun cs j' y h1 hy => by simp [h1, hy]
   refine LkAt.keep (H := H2) (b := fun z => b z \/ H.next <= z) ⟨.sl q 0 1 (N + 1) (N + 1) true, sy, _, by rw [eT]; exact u1, u3, by rw [eR]; exact v1, v2.trans g4, fun i op e => by
    rw [tl2] at e
    cases e
    exact .inr (by omega), fun h => by cases h⟩ fun j' y hj' hy => ?_
   have : j' ≠ r := by
    rcases hj' with rfl | rfl | hb1 | hb1
    · exact rgl.symm
    · exact rk.symm
    · exact fun e => hrb (e ▸ hb1)
    · have := zaa hw hr; omega
   simp [this, hy]
 · have := zaa hw hy
   rw [if_neg a1]
   refine u4 _ _ a2 a3 (fun op e => ?_) (hk1 j' y a1 a2 a3 a4 hy)
   rcases g5 j' op e with h | h
   · exact a4 h
   · omega
def recA (xs : List Int) : List Bs := if xs = [] then [] else recsOf xs
def enA (n : Nat) (x : Int) : En := ⟨n, 0, some [x]⟩
theorem ents_snoc (xs : List Int) (x : Int) : ents 1 (xs ++ [x]) = ents 1 xs ++ [enA (xs.length + 1) x] := by
 rw [ents_append]
 have : 1 + xs.length = xs.length + 1 := by omega
 simp [ents, enA, this]
theorem recA_snoc (xs : List Int) (x : Int) : recA (xs ++ [x]) = recA xs ++ saves (decide (xs = [])) (enA (xs.length + 1) x) := by
 unfold recA
 rw [if_neg (by simp)]
 unfold recsOf saves
 rw [ents_snoc]
 by_cases h : xs = []
 · subst h
   simp [ents]
 · simp [h, recsOf]
theorem recA_len (xs : List Int) : (recA xs).length <= xs.length + 2 := by
 unfold recA
 split
 · simp
 · simp [recsOf, ents_len]
theorem recB_le {kind view : Nat} (h1 : kind < 2 ^ 64) (h2 : view < 2 ^ 64) : (za4 0 1 kind view 0 0 []).length <= 70 := by
 have l0 := zan (u := 0) (by decide)
 have l1 := zan (u := 1) (by decide)
 have l2 := zan h1
 have l3 := zan h2
 simp only [za4, zaU, List.flatMap_nil, List.length_append, List.length_nil]
 omega
theorem recE_le {n : Nat} {x : Int} (hn : n < 2 ^ 64) (hx : i64 x) : (za4 0 1 3 0 0 0 [enA n x]).length <= 200 := by
 have l0 := zan (u := 0) (by decide)
 have l1 := zan (u := 1) (by decide)
 have l3 := zan (u := 3) (by decide)
 have l01 := zan (u := 0 + 1) (by decide)
 have ln := zan hn
 have lx := encI_le hx
 have le : (encEn (enA n x)).length <= 40 := by
  simp only [encEn, enA, En.l, Option.getD_some, encIs, List.flatMap_cons, List.flatMap_nil, List.length_append, List.length_cons, List.length_nil]
  omega
 have ls := zan (u := (encEn (enA n x)).length) (by omega)
 simp only [za4, zaU, List.flatMap_cons, List.flatMap_nil, encS, List.length_append, List.length_cons, List.length_nil]
 omega
theorem encU_ne (u : Nat) : encU u ≠ [] := by
 rw [encU]
 split <;> simp
theorem record_ne (kind view : Nat) (l : List En) : za4 0 1 kind view 0 0 l ≠ [] := by
 simp [za4, encU_ne]
theorem saves_le {b : Bool} {n : Nat} {x : Int} (hn : n < 2 ^ 64) (hx : i64 x) : ∀ y ∈ saves b (enA n x), y.length <= 1000 /\ y ≠ [] := by
 intro y hy
 have h3 := recE_le hn hx
 unfold saves at hy
 rcases List.mem_append.1 hy with hy | hy
 · split at hy
   · simp only [List.mem_cons, List.not_mem_nil, or_false] at hy
     rcases hy with rfl | rfl
     · exact ⟨by have := recB_le (kind := 1) (view := 1) (by decide) (by decide); omega, record_ne _ _ _⟩
     · exact ⟨by have := recB_le (kind := 2) (view := 1) (by decide) (by decide); omega, record_ne _ _ _⟩
   · simp at hy
 · simp only [List.mem_cons, List.not_mem_nil, or_false] at hy
   subst hy
   exact ⟨by omega, record_ne _ _ _⟩
theorem recA_le : ∀ {xs : List Int}, xs.length <= 100 -> (∀ v ∈ xs, i64 v) -> ∀ y ∈ recA xs, y.length <= 1000 := by
 intro xs hl hx y hy
 unfold recA at hy
 split at hy
 · simp at hy
 · unfold recsOf at hy
   simp only [List.mem_cons, List.mem_map] at hy
   rcases hy with rfl | rfl | ⟨e, he, rfl⟩
   · have := recB_le (kind := 1) (view := 1) (by decide) (by decide); omega
   · have := recB_le (kind := 2) (view := 1) (by decide) (by decide); omega
   · obtain ⟨h1, h2, h3, v, h4, h5⟩ := ents_mem xs 1 e he
     have : e = enA e.id v := by cases e; simp only at h3 h5; subst h3 h5; rfl
     rw [this]
     have := recE_le (n := e.id) (by omega) (hx v h4)
     omega
theorem sames_refl : ∀ l : List En, sames l l = true
 | [] => rfl
 | a :: l => by simp [sames, same, sames_refl l]
theorem begins_app (l m : List En) : begins (l ++ m) l = true := by
 unfold begins
 simp [sames_refl]
theorem hasId_ents {xs : List Int} : hasId (ents 1 xs) (xs.length + 1) = false := by
 unfold hasId
 rw [List.any_eq_false]
 intro e he
 obtain ⟨h1, h2, _⟩ := ents_mem xs 1 e he
 simp; omega
theorem ensm {n : Nat} {x : Int} (hn : n < 2 ^ 64) (hx : i64 x) : EnSm (enA n x) := by
 refine ⟨⟨hn, by simp [enA], by simp [enA, En.l], fun v hv => ?_⟩, by simp [enA, En.l]⟩
 simp [enA, En.l] at hv
 rw [hv]; exact hx
theorem ensm_ents {xs : List Int} (hl : xs.length <= 100) (hx : ∀ v ∈ xs, i64 v) : ∀ e ∈ ents 1 xs, EnSm e := by
 intro e he
 obtain ⟨h1, h2, h3, v, h4, h5⟩ := ents_mem xs 1 e he
 have : e = enA e.id v := by cases e; simp only at h3 h5; subst h3 h5; rfl
 rw [this]
 exact ensm (by omega) (hx v h4)
theorem may_enA {n : Nat} {x : Int} (h : 0 < n) : may (enA n x) = true := by simp [may, enA, En.l, h]
theorem LkAt.lt {H : AHeap} {gl k : Nat} {lives : Int} {R : List Bs} {b : Nat -> Prop} {sd : Bool} (h : LkAt H gl k lives R b sd) (hw : H.Wf) : LkAt H gl k lives R (fun x => b x /\ x < H.next) sd := by
 obtain ⟨lv, sy, d, ⟨h1, h2⟩, h3, h4, h5, h6, h7⟩ := h
 refine ⟨lv, sy, d, ⟨h1, h2⟩, h3, h4, h5, fun i op e => ⟨h6 i op e, ?_⟩, h7⟩
 rcases h2 with ⟨h', _⟩ | ⟨i', op', vs, h', hg, _⟩
 · rw [h'] at e; cases e
 · rw [e] at h'; cases h'
   exact zaa hw hg
theorem StAt.lt {H : AHeap} {m q : Nat} {op : Bool} {s no nd : Nat} {B : Nat -> Prop} {ov dv : AV} (h : StAt H m q op s no nd B ov dv) (hw : H.Wf) : StAt H m q op s no nd (fun x => B x /\ x < H.next) ov dv := by
 obtain ⟨a, c, b1, b2, os, ds, bo, bd, hM, gO, gD, bO, bD, bX, nm, nq⟩ := h
 exact ⟨a, c, b1, b2, os, ds, _, _, hM, Gr_lt gO fun j x => zaa hw, Gr_lt gD fun j x => zaa hw, fun x hx => ⟨bO x hx.1, hx.2.1⟩, fun x hx => ⟨bD x hx.1, hx.2.1⟩, fun x hx hy => bX x hx.1 hy.1, fun h => nm h.1, fun h => nq h.1⟩
def AlAt (H : AHeap) (O : Nat -> Prop) (r k : Nat) (lives : Int) (xs : List Int) : Prop := ∃ ci g hh m q pI cap opI op gl ag ov dv b B,
 H.get r = some (.cells (rpV ci (.ptr k 0) (.ptr gl 0) m pI cap opI (.int .u64 (recA xs).length) (.int .i64 (lens (texts 0 (recA xs)))) (.int .i64 0) xs.length ag ov dv (.int .i64 lives) (.bool false))) /\
 (if decide (xs = []) = true then Fre H ci g hh /\ ents 1 xs = [] else Led H ci g hh (ents 1 xs)) /\ LkAt H gl k lives (recA xs) b true /\ H.get pI = some (.cells [.int .i64 2]) /\ StAt H m q op xs.length xs.length (1 + xs.length) B ov dv /\
 (∀ x, x = r \/ x = ci \/ x = g \/ x = hh \/ x = gl \/ x = k \/ x = m \/ x = q \/ x = pI -> O x /\ x < H.next /\ ¬ b x /\ ¬ B x) /\ (∀ x, b x -> O x /\ x < H.next /\ ¬ B x) /\ (∀ x, B x -> O x /\ x < H.next) /\ (∀ v ∈ xs, i64 v) /\ ag = entsV (ents 1 xs)
theorem AlAt.keep {H H' : AHeap} {O : Nat -> Prop} {r k : Nat} {lives : Int} {xs : List Int} (h : AlAt H O r k lives xs) (hk : ∀ j y, O j -> H.get j = some y -> H'.get j = some y) (hn : H.next <= H'.next) : AlAt H' O r k lives xs := by
 obtain ⟨ci, g, hh, m, q, pI, cap, opI, op, gl, ag, ov, dv, b, B, h1, h2, h3, h4, h5, h6, h7, h8, h9⟩ := h
 refine ⟨ci, g, hh, m, q, pI, cap, opI, op, gl, ag, ov, dv, b, B, hk _ _ (h6 r (by simp)).1 h1, ?_, h3.keep fun j y hj => hk j y ?_, hk _ _ (h6 pI (by simp)).1 h4, h5.keep fun j y hj => hk j y ?_, fun x hx => ?_, fun x hx => ?_, fun x hx => ?_, h9⟩
 · split
   · rename_i hc
     rw [if_pos hc] at h2
     obtain ⟨⟨c1, c2, c3, c4⟩, c5⟩ := h2
     exact ⟨⟨hk _ _ (h6 ci (by simp)).1 c1, hk _ _ (h6 g (by simp)).1 c2, hk _ _ (h6 hh (by simp)).1 c3, c4⟩, c5⟩
   · rename_i hc
     rw [if_neg hc] at h2
     obtain ⟨c1, c2, c3⟩ := h2
     exact ⟨hk _ _ (h6 ci (by simp)).1 c1, hk _ _ (h6 g (by simp)).1 c2, hk _ _ (h6 hh (by simp)).1 c3⟩
 · rcases hj with rfl | rfl | hj
   · exact (h6 _ (by simp)).1
   · exact (h6 _ (by simp)).1
   · exact (h7 _ hj).1
 · rcases hj with rfl | rfl | hj
   · exact (h6 _ (by simp)).1
   · exact (h6 _ (by simp)).1
   · exact (h8 _ hj).1
 · have := h6 x hx; exact ⟨this.1, by omega, this.2.2⟩
 · have := h7 x hx; exact ⟨this.1, by omega, this.2.2⟩
 · have := h8 x hx; exact ⟨this.1, by omega⟩
theorem rpTell_0 {H : AHeap} {r : Nat} {c0 c1 c2 c3 c4 c5 c6 c7 c8 c9 c10 c11 c12 : AV} (hr : H.get r = some (.cells [c0, c1, c2, c3, c4, c5, c6, c7, c8, c9, c10, c11, c12, .bool false])) :
  Does Tryz.prog G 48 [.ptr r 0, .int .i64 0] H fun x h => x = .int .i64 0 /\ h = H := by
 refine (rpTell_does hr 0).mono ?_
 rintro x h ⟨rfl, rfl⟩
 exact ⟨rfl, set_self (by simpa using hr)⟩
theorem rpDo_one (hG : ∀ g a, G g = some a -> a.idLt 0 = true) {H : AHeap} {r ci m q pI cap gl k s n no nd : Nat} {opI op : Bool} {lives : Int} {ag ov dv sv : AV} {R L : List Bs} {b B bs : Nat -> Prop} {vs : List AV} {a0 a1 a2 a3 a6 a7 a8 a9 a10 lv : AV} {l : List En}
  (hr : H.get r = some (.cells (rpV ci (.ptr k 0) (.ptr gl 0) m pI cap opI (.int .u64 R.length) (.int .i64 (lens (texts 0 R))) (.int .i64 0) s ag ov dv (.int .i64 lives) (.bool false)))) (hi : H.get ci = some (.cells [a0, a1, a2, a3, lv, .int .i64 n, a6, a7, a8, a9, a10])) (hlv : EnF lv l) (hn : n <= l.length) (hl : l.length <= 200) (hrw : ∀ e ∈ l, e.l.length <= 1000000)
  (hlk : LkAt H gl k lives R b true) (hp : H.get pI = some (.cells [.int .i64 2])) (hS : StAt H m q op s no nd B ov dv) (hs : s <= n) (hno : no <= 1000) (hnd : nd <= 1000)
  (hsv : Gr H 1 L.length vs sv bs) (hvs : Bts vs L) (h0 : 0 < L.length) (hN : R.length + L.length <= 60) (hb : ∀ x ∈ R ++ L, x.length <= 1000) (hne : ∀ x ∈ L, x ≠ [])
  (hbs : ∀ x, bs x -> x ≠ r /\ x ≠ gl /\ x ≠ k /\ ¬ b x) (hF : ∀ x, x = r \/ x = ci \/ x = gl \/ x = k \/ x = m \/ x = q \/ x = pI -> ¬ b x /\ ¬ B x) (hbB : ∀ x, B x -> ¬ b x) :
  Does Tryz.prog G 43 [.ptr r 0, .agg [sv, .nilsl]] H fun x h => x = .tuple [.nilsl, .int .i64 0] /\ ∃ ov dv N1, H.next <= N1 /\ h.get r = some (.cells (rpV ci (.ptr k 0) (.ptr gl 0) m pI cap opI (.int .u64 (R ++ L).length) (.int .i64 (lens (texts 0 (R ++ L)))) (.int .i64 0) n (entsV (l.take n)) ov dv (.int .i64 lives) (.bool false))) /\
   LkAt h gl k lives (R ++ L) (fun x => (b x \/ H.next <= x) /\ x < N1) true /\ StAt h m q op n (no + (n - s)) (nd + (n - s)) (fun x => B x \/ N1 <= x) ov dv /\ ∀ j y, j ≠ r -> j ≠ gl -> j ≠ k -> j ≠ m -> j ≠ q -> ¬ b j -> ¬ B j -> H.get j = some y -> h.get j = some y := by
 refine Does.wf Tryz.call43 fun hw _ => ?_
 have ne : ∀ {i j : Nat} {a b : AObj}, H.get i = some a -> H.get j = some b -> a ≠ b -> i ≠ j := fun {i j a b} ha hb hab e => by
  rw [e, hb] at ha; exact hab (Option.some.inj ha).symm
 have len : ∀ {a b : List AV}, a.length ≠ b.length -> AObj.cells a ≠ AObj.cells b := fun {a b} hl e => hl (by cases e; rfl)
 obtain ⟨a', c', b1, b2, os, ds, bo, bd, hM, _⟩ := id hS
 obtain ⟨lv0, sy0, d0, ⟨hgl, _⟩, ⟨cs0, ⟨z0, z1, z2, z3, z4, z5, rfl, _⟩, hk0⟩, _⟩ := id hlk
 have rci : r ≠ ci := ne hr hi (len (by simp [rpV]))
 have rgl : r ≠ gl := ne hr hgl (len (by simp [rpV, lgV]))
 have rk : r ≠ k := ne hr hk0 (len (by simp [rpV, dkV]))
 have glk : gl ≠ k := ne hgl hk0 (len (by simp [lgV, dkV]))
 have pgl : pgL.length = 6 := by decide
 have rm : r ≠ m := ne hr hM.1 (len (by simp [rpV, pgl]))
 have rq : r ≠ q := ne hr hM.2.1 (len (by simp [rpV, ints, memI]))
 have pr : pI ≠ r := ne hp hr (len (by simp [rpV]))
 have pm : pI ≠ m := ne hp hM.1 (len (by simp [pgl]))
 have pq : pI ≠ q := ne hp hM.2.1 (len (by simp [ints, memI]))
 have cgl : ci ≠ gl := ne hi hgl (len (by simp [lgV]))
 have ck : ci ≠ k := ne hi hk0 (len (by simp [dkV]))
 have pgl' : pI ≠ gl := ne hp hgl (len (by simp [lgV]))
 have pk : pI ≠ k := ne hp hk0 (len (by simp [dkV]))
 have mgl : m ≠ gl := ne hM.1 hgl (len (by simp [lgV, pgl]))
 have mk : m ≠ k := ne hM.1 hk0 (len (by simp [dkV, pgl]))
 have qgl : q ≠ gl := ne hM.2.1 hgl (len (by simp [lgV, ints, memI]))
 have qk : q ≠ k := ne hM.2.1 hk0 (len (by simp [dkV, ints, memI]))
 have svs := hsv.sc
 have svc := hsv.cells
 have hrn := zaa hw hr
 refine zad Tryz.call43 Tryz.func43 rfl (by simp [Tryz.f43]) ?_
 simp [svs, svc]
 obtain ⟨H1, hH1⟩ : ∃ H1, H1 = H.push (.cells [sv, .nilsl]) := ⟨_, rfl⟩
 rw [<- hH1]
 have k1 : ∀ j y, H.get j = some y -> H1.get j = some y := fun j y hy => by
  have := zaa hw hy
  have : j ≠ H.next := by omega
  rw [hH1]; simp [this, hy]
 have n1 : H1.next = H.next + 1 := by rw [hH1]; rfl
 have s1 : H1.get H.next = some (.cells [sv, .nilsl]) := by rw [hH1]; simp
 have hlk1 := (hlk.lt hw).keep (H' := H1) fun j y _ hy => k1 j y hy
 have hr1 := k1 _ _ hr
 simp only [rpV] at hr1
 refine zae (keep_does (R := R) (e := [.int .i64 0, .int .i64 s, ag, ov, dv, .int .i64 lives, .bool false]) (by simpa [kpC] using hr1) rfl hlk1 (hsv.keep fun j y _ hy => k1 j y hy) hvs h0 hN hb hne (fun h => (hF r (by simp)).1 h.1) (fun x hx => ⟨(hbs x hx).1, (hbs x hx).2.1, (hbs x hx).2.2.1, fun h => (hbs x hx).2.2.2 h.1⟩) rgl rk glk) ?_
 rintro x H2 ⟨rfl, u1, u2, u3, u4⟩ hw2 _
 simp only [kpC] at u1
 simp
 refine zab (rpTell_0 u1) ?_
 rintro x H3 ⟨rfl, rfl⟩
 simp
 have nb : ∀ j, ¬ b j -> ¬ (b j /\ j < H.next) := fun j h h' => h h'.1
 have k2 : ∀ j y, j ≠ r -> j ≠ gl -> j ≠ k -> ¬ b j -> H.get j = some y -> H3.get j = some y := fun j y h1 h2 h3 h4 hy => u3 j y h1 h2 h3 (nb j h4) (k1 j y hy)
 have hS2 : StAt H3 m q op s no nd (fun x => B x /\ x < H.next) ov dv := (hS.lt hw).keep fun j y hj hy => by
  rcases hj with rfl | rfl | hj
  · exact k2 _ _ rm.symm mgl mk (hF _ (by simp)).1 hy
  · exact k2 _ _ rq.symm qgl qk (hF _ (by simp)).1 hy
  · exact k2 _ _ (fun e => (hF r (by simp)).2 (e ▸ hj.1)) (fun e => (hF gl (by simp)).2 (e ▸ hj.1)) (fun e => (hF k (by simp)).2 (e ▸ hj.1)) (hbB _ hj.1) hy
 refine zae (step_run hG (by simpa [rpV] using u1) (k2 _ _ rci.symm cgl ck (hF ci (by simp)).1 hi) hlv hn hl hrw (k2 _ _ pr pgl' pk (hF pI (by simp)).1 hp) hS2 hs hno hnd (fun h => (hF r (by simp)).2 h.1) (fun h => (hF pI (by simp)).2 h.1) rm rq pr pm pq) ?_
 rintro x H4 ⟨rfl, ov', dv', w1, w2, w3⟩ hw4 _
 have hr4 := w1
 simp only [rpV] at hr4
 have hby := (texts_le (R := R ++ L) (i := 0) (by rw [List.length_append]; omega) hb).1
 have hby2 : ¬ (100000 : Int) < (lens (texts 0 (R ++ L)) : Nat) := by rw [List.length_append] at hby; omega
 have hmn := zaa hw hM.1
 have hqn := zaa hw hM.2.1
 have hgn := zaa hw hgl
 have hkn := zaa hw hk0
 have s4 := w3 _ _ (by omega) (by omega) (by omega) (fun h => by omega) (u3 _ _ (by omega) (by omega) (by omega) (fun h => by omega) s1)
 simp [hr4, hby2, s4]
 have hrn2 := zaa hw hr
 refine ⟨ov', dv', H3.next, by omega, by simp [rpV], ?_, ?_, fun j y h1 h2 h3 h4 h5 h6 h7 hy => w3 j y h1 h4 h5 (fun h => h7 h.1) (k2 j y h1 h2 h3 h6 hy)⟩
 · refine LkAt.mono ((u2.lt hw2).keep fun j y hj hy => w3 j y ?_ ?_ ?_ ?_ hy) fun x hx => ?_
   · rcases hj with rfl | rfl | ⟨hj | hj, _⟩
     · exact rgl.symm
     · exact rk.symm
     · exact fun e => (hF r (by simp)).1 (e ▸ hj.1)
     · omega
   · rcases hj with rfl | rfl | ⟨hj | hj, _⟩
     · exact mgl.symm
     · exact mk.symm
     · exact fun e => (hF m (by simp)).1 (e ▸ hj.1)
     · omega
   · rcases hj with rfl | rfl | ⟨hj | hj, _⟩
     · exact qgl.symm
     · exact qk.symm
     · exact fun e => (hF q (by simp)).1 (e ▸ hj.1)
     · omega
   · rcases hj with rfl | rfl | ⟨hj | hj, _⟩
     · exact fun h => (hF _ (by simp)).2 h.1
     · exact fun h => (hF _ (by simp)).2 h.1
     · exact fun h => hbB _ h.1 hj.1
     · intro h; omega
   · rcases hx with ⟨hx | hx, hx2⟩
     · exact ⟨.inl hx.1, hx2⟩
     · exact ⟨.inr (by omega), hx2⟩
 · refine w2.mono (fun x hx => ?_) ?_ ?_
   · rcases hx with hx | hx
     · exact .inl hx.1
     · exact .inr hx
   · rintro (h | h)
     · exact (hF m (by simp)).2 h
     · omega
   · rintro (h | h)
     · exact (hF q (by simp)).2 h
     · omega
theorem rpSubmit_one (hG : ∀ g a, G g = some a -> a.idLt 0 = true) {H : AHeap} {O : Nat -> Prop} {r k : Nat} {lives : Int} {xs : List Int} (hA : AlAt H O r k lives xs) {x : Int} (hx : i64 x) (hl : xs.length < 20) {ts : List AV} :
  Does Tryz.prog G 14 [.ptr r 0, .int .u64 (xs.length + 1 : Nat), .vsl (ints [x] ++ ts) 1] H fun y h => y = .tuple [.nilsl, .int .i64 0] /\ AlAt h (fun j => O j \/ H.next <= j) r k lives (xs ++ [x]) /\ (∀ j y, ¬ O j -> H.get j = some y -> h.get j = some y) := by
 refine Does.wf Tryz.call14 fun hw _ => ?_
 obtain ⟨ci, g, hh, m, q, pI, cap, opI, op, gl, ag, ov, dv, b, B, hr, hc, hlk, hp, hS, hf, hb, hB, hxs, hag⟩ := hA
 obtain ⟨fr1, fr2, fr3, fr4⟩ := hf r (by simp)
 obtain ⟨fc1, fc2, fc3, fc4⟩ := hf ci (by simp)
 obtain ⟨fg1, fg2, fg3, fg4⟩ := hf g (by simp)
 obtain ⟨fh1, fh2, fh3, fh4⟩ := hf hh (by simp)
 obtain ⟨fl1, fl2, fl3, fl4⟩ := hf gl (by simp)
 obtain ⟨fk1, fk2, fk3, fk4⟩ := hf k (by simp)
 obtain ⟨fm1, fm2, fm3, fm4⟩ := hf m (by simp)
 obtain ⟨fq1, fq2, fq3, fq4⟩ := hf q (by simp)
 obtain ⟨fp1, fp2, fp3, fp4⟩ := hf pI (by simp)
 have hr0 := hr
 simp only [rpV] at hr
 obtain ⟨lv, sy, d, g1, g2, g3, g4, g5⟩ := hlk
 have hlk : LkAt H gl k lives (recA xs) b true := ⟨lv, sy, d, g1, g2, g3, g4, g5⟩
 have hon : d.off = false := g3.on
 have hli : (d.lives != lives) = false := by simp [g4]
 have hid : ¬ ((xs.length + 1 : Nat) : Int) = 0 := by omega
 refine zad Tryz.call14 Tryz.func14 rfl (by simp [Tryz.f14]) ?_
 obtain ⟨n1, hn1⟩ : ∃ n1, n1 = xs.length + 1 := ⟨_, rfl⟩
 rw [<- hn1] at hid ⊢
 have hid' : ¬ n1 = 0 := by omega
 simp [hid, hid']
 refine zab (fits_does hr hp (l := [x]) (ts := ts) (.inr rfl) (by simp)) ?_
 rintro y h ⟨rfl, hh0⟩
 subst hh0
 simp
 refine zae (rpOff_does g2 hr) ?_
 rintro y H1 ⟨rfl, hH1⟩ hw1 _
 rw [hon, hli] at hH1 ⊢
 simp only [Bool.or_false] at hH1 ⊢
 have e1 : H1 = h := by
  rw [hH1]
  exact set_self hr
 subst e1
 simp [hr]
 have hsub := coSubmit_one (G := G) hG (fst := decide (xs = [])) (l := ents 1 xs) hc (id := n1) (v := .vsl (ints [x] ++ ts) 1) (row := some [x]) (.inr ⟨ts, [x], rfl, rfl⟩) (fun y hy => by
  rcases List.mem_append.1 hy with hy | hy
  · exact ensm_ents (by omega) hxs y hy
  · rw [List.mem_singleton.1 hy]
    exact ensm (n := n1) (by omega) hx) (may_enA (n := n1) (x := x) (by omega)) (by rw [hn1]; exact hasId_ents) (by rw [ents_len]; omega) (begins_app _ _)
 refine zae hsub ?_
 rintro y H2 ⟨sv, vs, g', h', rfl, s1, s2, ⟨s3, s4, s5⟩, s6, s7, s8, s9⟩ hw2 _
 simp
 have hE : ents 1 xs ++ [⟨n1, 0, some [x]⟩] = ents 1 (xs ++ [x]) := by rw [ents_snoc, <- hn1]; rfl
 have hSv : recA xs ++ saves (decide (xs = [])) ⟨n1, 0, some [x]⟩ = recA (xs ++ [x]) := by rw [recA_snoc, <- hn1]; rfl
 have hEl : (ents 1 (xs ++ [x])).length = n1 := by rw [ents_len]; simp [hn1]
 rw [hE] at s3 s5
 rw [hEl] at s5
 have hxs' : ∀ v ∈ xs ++ [x], i64 v := fun v hv => by
  rcases List.mem_append.1 hv with hv | hv
  · exact hxs v hv
  · rw [List.mem_singleton.1 hv]; exact hx
 have sl := saves_le (b := decide (xs = [])) (n := n1) (x := x) (by omega) hx
 have sl0 : 0 < (saves (decide (xs = [])) ⟨n1, 0, some [x]⟩).length := by simp [saves]
 have sl2 : (recA xs).length + (saves (decide (xs = [])) ⟨n1, 0, some [x]⟩).length <= 60 := by
  have := recA_len (xs ++ [x])
  rw [<- hSv, List.length_append] at this
  simp at this
  omega
 have rl := recA_le (xs := xs ++ [x]) (by simp; omega) hxs'
 rw [<- hSv] at rl
 -- which block is which
 have ne : ∀ {i j : Nat} {a b : AObj}, H1.get i = some a -> H1.get j = some b -> a ≠ b -> i ≠ j := fun {i j a b} ha hb hab e => by
  rw [e, hb] at ha; exact hab (Option.some.inj ha).symm
 have len : ∀ {a b : List AV}, a.length ≠ b.length -> AObj.cells a ≠ AObj.cells b := fun {a b} hl e => hl (by cases e; rfl)
 have hcc : ∃ cs e1 e2, H1.get ci = some (.cells cs) /\ cs.length = 11 /\ H1.get g = some (.map e1) /\ H1.get hh = some (.map e2) := by
  split at hc
  · exact ⟨_, _, _, hc.1.1, rfl, hc.1.2.1, hc.1.2.2.1⟩
  · exact ⟨_, _, _, hc.1, rfl, hc.2.1, hc.2.2⟩
 obtain ⟨ccs, ge, he, cg1, cl1, cg2, cg3⟩ := hcc
 obtain ⟨a', c', b1, b2, os, ds, bo, bd, hM, _⟩ := id hS
 obtain ⟨cs0, ⟨z0, z1, z2, z3, z4, z5, rfl, _⟩, hk0⟩ := id g2
 have pgl : pgL.length = 6 := by decide
 have old : ∀ {j : Nat} {cs : List AV}, H1.get j = some (.cells cs) -> cs.length ≠ 11 -> H2.get j = some (.cells cs) := fun {j cs} hj hl => s8 _ _ (ne hj cg1 (len (by rw [cl1]; exact hl))) (ne hj cg2 (by simp)) (ne hj cg3 (by simp)) hj
 have r2 := old hr0 (by simp [rpV])
 have p2 := old hp (by simp)
 have lk2 := (hlk.lt hw).keep (H' := H2) fun j y hj hy => s8 j y (by
  rcases hj with rfl | rfl | hj
  · exact ne g1.1 cg1 (len (by simp [lgV, cl1]))
  · exact ne hk0 cg1 (len (by simp [dkV, cl1]))
  · exact fun e => fc3 (e ▸ hj.1)) (by
  rcases hj with rfl | rfl | hj
  · exact ne g1.1 cg2 (by simp)
  · exact ne hk0 cg2 (by simp)
  · exact fun e => fg3 (e ▸ hj.1)) (by
  rcases hj with rfl | rfl | hj
  · exact ne g1.1 cg3 (by simp)
  · exact ne hk0 cg3 (by simp)
  · exact fun e => fh3 (e ▸ hj.1)) hy
 have st2 := (hS.lt hw).keep (H' := H2) fun j y hj hy => s8 j y (by
  rcases hj with rfl | rfl | hj
  · exact ne hM.1 cg1 (len (by simp [pgl, cl1]))
  · exact ne hM.2.1 cg1 (len (by simp [ints, memI, cl1]))
  · exact fun e => fc4 (e ▸ hj.1)) (by
  rcases hj with rfl | rfl | hj
  · exact ne hM.1 cg2 (by simp)
  · exact ne hM.2.1 cg2 (by simp)
  · exact fun e => fg4 (e ▸ hj.1)) (by
  rcases hj with rfl | rfl | hj
  · exact ne hM.1 cg3 (by simp)
  · exact ne hM.2.1 cg3 (by simp)
  · exact fun e => fh4 (e ▸ hj.1)) hy
 have s3' := s3
 simp only [coC, cL] at s3'
 obtain ⟨li1, li2⟩ : (ents 1 (xs ++ [x])).length <= 200 /\ ∀ e ∈ ents 1 (xs ++ [x]), e.l.length <= 1000000 := ⟨by omega, fun e he => by have := (ensm_ents (by simp; omega) hxs' e he).2; omega⟩
 refine zae (rpDo_one hG r2 s3' (EnF.entsV _) (Nat.le_refl _) li1 li2 lk2 p2 st2 (by omega) (by omega) (by omega) s1 s2 sl0 sl2 rl (fun y hy => (sl y hy).2) (fun y hy => ⟨by omega, by omega, by omega, fun h => by omega⟩) (fun y hy => ?_) (fun y hy h => (hb y h.1).2.2 hy.1)) ?_
 · rcases hy with rfl | rfl | rfl | rfl | rfl | rfl | rfl
   · exact ⟨fun h => fr3 h.1, fun h => fr4 h.1⟩
   · exact ⟨fun h => fc3 h.1, fun h => fc4 h.1⟩
   · exact ⟨fun h => fl3 h.1, fun h => fl4 h.1⟩
   · exact ⟨fun h => fk3 h.1, fun h => fk4 h.1⟩
   · exact ⟨fun h => fm3 h.1, fun h => fm4 h.1⟩
   · exact ⟨fun h => fq3 h.1, fun h => fq4 h.1⟩
   · exact ⟨fun h => fp3 h.1, fun h => fp4 h.1⟩
 rintro y H3 ⟨rfl, ov', dv', N1, v1, v2, v3, v4, v5⟩ hw3 _
 simp
 rw [hSv] at v2 v3
 have ne2 : ∀ {i j : Nat} {a b : AObj}, H2.get i = some a -> H2.get j = some b -> a ≠ b -> i ≠ j := fun {i j a b} ha hb hab e => by
  rw [e, hb] at ha; exact hab (Option.some.inj ha).symm
 have gl2 := old g1.1 (by simp [lgV])
 have k2 := old hk0 (by simp [dkV])
 have m2 := old hM.1 (by simp [pgl])
 have q2 := old hM.2.1 (by simp [ints, memI])
 have bg : ¬ (b g' /\ g' < H1.next) /\ ¬ (B g' /\ g' < H1.next) := by
  rcases s6 with rfl | h
  · exact ⟨fun h => fg3 h.1, fun h => fg4 h.1⟩
  · exact ⟨fun h' => by omega, fun h' => by omega⟩
 have bh : ¬ (b h' /\ h' < H1.next) /\ ¬ (B h' /\ h' < H1.next) := by
  rcases s7 with rfl | h
  · exact ⟨fun h => fh3 h.1, fun h => fh4 h.1⟩
  · exact ⟨fun h' => by omega, fun h' => by omega⟩
 have i3 := v5 _ _ (ne2 s3 r2 (len (by simp [rpV, coC]))) (ne2 s3 gl2 (len (by simp [lgV, coC]))) (ne2 s3 k2 (len (by simp [dkV, coC]))) (ne2 s3 m2 (len (by simp [pgl, coC]))) (ne2 s3 q2 (len (by simp [ints, memI, coC]))) (fun h => fc3 h.1) (fun h => fc4 h.1) s3
 have p3 := v5 _ _ (ne2 p2 r2 (len (by simp [rpV]))) (ne2 p2 gl2 (len (by simp [lgV]))) (ne2 p2 k2 (len (by simp [dkV]))) (ne2 p2 m2 (len (by simp [pgl]))) (ne2 p2 q2 (len (by simp [ints, memI]))) (fun h => fp3 h.1) (fun h => fp4 h.1) p2
 have g3 := v5 _ _ (ne2 s4 r2 (by simp)) (ne2 s4 gl2 (by simp)) (ne2 s4 k2 (by simp)) (ne2 s4 m2 (by simp)) (ne2 s4 q2 (by simp)) bg.1 bg.2 s4
 have h3 := v5 _ _ (ne2 s5 r2 (by simp)) (ne2 s5 gl2 (by simp)) (ne2 s5 k2 (by simp)) (ne2 s5 m2 (by simp)) (ne2 s5 q2 (by simp)) bh.1 bh.2 s5
 have gn2 := zaa hw2 s4
 have hn2 := zaa hw2 s5
 have v3' := v3.lt hw3
 have v4' := v4.lt hw3
 obtain ⟨_, _, _, ⟨gl3, _⟩, ⟨_, _, k3⟩, _⟩ := id v3
 obtain ⟨_, _, _, _, _, _, _, _, hM3, _⟩ := id v4
 have eq1 : xs.length + (n1 - xs.length) = n1 := by omega
 have eq2 : 1 + xs.length + (n1 - xs.length) = 1 + n1 := by omega
 have len1 : (xs ++ [x]).length = n1 := by simp [hn1]
 rw [hEl] at v2 v4 v4'
 rw [hEl] at hM3
 rw [eq1, eq2] at v4'
 refine ⟨⟨ci, g', h', m, q, pI, cap, opI, op, gl, _, ov', dv', fun y => (((b y /\ y < H1.next) \/ H2.next <= y) /\ y < N1) /\ y < H3.next, fun y => ((B y /\ y < H1.next) \/ N1 <= y) /\ y < H3.next, by rw [len1]; exact v2, ?_, v3', p3, by rw [len1]; exact v4', fun y hy => ?_, fun y hy => ⟨?_, hy.2, fun h => ?_⟩, fun y hy => ⟨?_, hy.2⟩, hxs', by rw [List.take_of_length_le (by omega)]⟩, fun j y hj hy => ?_⟩
 · rw [if_neg (by simp)]
   exact ⟨i3, g3, by rw [hEl]; exact h3⟩
 · rcases hy with rfl | rfl | rfl | rfl | rfl | rfl | rfl | rfl | rfl
   · exact ⟨.inl fr1, zaa hw3 v2, fun h => by rcases h.1.1 with h' | h'; exact fr3 h'.1; omega, fun h => by rcases h.1 with h' | h'; exact fr4 h'.1; omega⟩
   · exact ⟨.inl fc1, zaa hw3 i3, fun h => by rcases h.1.1 with h' | h'; exact fc3 h'.1; omega, fun h => by rcases h.1 with h' | h'; exact fc4 h'.1; omega⟩
   · refine ⟨?_, zaa hw3 g3, fun h => by rcases h.1.1 with h' | h'; exact bg.1 h'; omega, fun h => by rcases h.1 with h' | h'; exact bg.2 h'; omega⟩
     rcases s6 with e | h
     · rw [e]; exact .inl fg1
     · exact .inr h
   · refine ⟨?_, zaa hw3 h3, fun h => by rcases h.1.1 with h' | h'; exact bh.1 h'; omega, fun h => by rcases h.1 with h' | h'; exact bh.2 h'; omega⟩
     rcases s7 with e | h
     · rw [e]; exact .inl fh1
     · exact .inr h
   · exact ⟨.inl fl1, zaa hw3 gl3, fun h => by rcases h.1.1 with h' | h'; exact fl3 h'.1; omega, fun h => by rcases h.1 with h' | h'; exact fl4 h'.1; omega⟩
   · exact ⟨.inl fk1, zaa hw3 k3, fun h => by rcases h.1.1 with h' | h'; exact fk3 h'.1; omega, fun h => by rcases h.1 with h' | h'; exact fk4 h'.1; omega⟩
   · exact ⟨.inl fm1, zaa hw3 hM3.1, fun h => by rcases h.1.1 with h' | h'; exact fm3 h'.1; omega, fun h => by rcases h.1 with h' | h'; exact fm4 h'.1; omega⟩
   · exact ⟨.inl fq1, zaa hw3 hM3.2.1, fun h => by rcases h.1.1 with h' | h'; exact fq3 h'.1; omega, fun h => by rcases h.1 with h' | h'; exact fq4 h'.1; omega⟩
   · exact ⟨.inl fp1, zaa hw3 p3, fun h => by rcases h.1.1 with h' | h'; exact fp3 h'.1; omega, fun h => by rcases h.1 with h' | h'; exact fp4 h'.1; omega⟩
 · rcases hy.1.1 with h | h
   · exact .inl (hb _ h.1).1
   · exact .inr (by omega)
 · rcases h.1 with h | h
   · rcases hy.1.1 with h' | h'
     · exact (hb _ h'.1).2.2 h.1
     · omega
   · have := hy.1.2; omega
 · rcases hy.1 with h | h
   · exact .inl (hB _ h.1).1
   · exact .inr (by omega)
 · have nj : ∀ {z : Nat}, O z -> j ≠ z := fun hz e => hj (e ▸ hz)
   exact v5 j y (nj fr1) (nj fl1) (nj fk1) (nj fm1) (nj fq1) (fun h => hj (hb _ h.1).1) (fun h => hj (hB _ h.1).1) (s8 j y (nj fc1) (nj fg1) (nj fh1) hy)
end Go.Proofs.YtekbjlihciedjaaGreatDoor
namespace Go.Proofs.YtekbjlihciedjaaGreatDoor
open Go Go.Abs Go.Lex
variable {G : Nat -> Option AV}
theorem hasPrefixL (s p : List UInt8) (H : AHeap) : Does Tryz.prog G 314 [.str s, .str p] H fun r H' => r = .bool (p.isPrefixOf s) /\ H' = H := by
 refine zad Tryz.call314 Tryz.func314 rfl (by simp [Tryz.f314]) ?_
 by_cases h : p.length <= s.length
 · have h1 : (p.length : Int) <= s.length := by omega
   simp [h, h1]
   rw [Bool.eq_iff_iff, List.isPrefixOf_iff_prefix, List.prefix_iff_eq_take]
   simp
   exact eq_comm
 · have h1 : ¬ (p.length : Int) <= s.length := by omega
   have h2 : p.isPrefixOf s = false := by
    rw [Bool.eq_false_iff]
    intro e
    exact h (List.isPrefixOf_iff_prefix.1 e).length_le
   simp [h, h1, h2]
theorem hasPrefix (s p : List UInt8) (H : AHeap) : Does Tryz.prog G 268 [.str s, .str p] H fun r H' => r = .bool (p.isPrefixOf s) /\ H' = H := by
 refine zad Tryz.call268 Tryz.func268 rfl (by simp [Tryz.f268]) ?_
 simp
 refine zab (hasPrefixL s p H) ?_
 rintro _ _ ⟨rfl, rfl⟩
 simp
theorem asciiContains (H : AHeap) (i : Nat) (cs : List AV) (b : UInt8) (v : Bool) (h : H.get i = some (.cells cs)) (hl : cs.length = 256) (hv : cs[b.toNat]? = some (.bool v)) :
  Does Tryz.prog G 355 [.ptr i 0, .int .u8 b.toNat] H fun r H' => r = .bool v /\ H' = H := by
 have hb := b.toNat_lt
 have h1 : (b.toNat : Int) < 256 := by omega
 have h2 : b.toNat <= 256 := by omega
 refine zad Tryz.call355 Tryz.func355 rfl (by simp [Tryz.f355]) ?_
 simp [h, hl, hv, h1, h2]
def zaq (l : List UInt8) : List AV := (List.range 256).map fun k => .bool (l.any fun b => b.toNat == k)
@[simp] theorem asciiCells_length (l : List UInt8) : (zaq l).length = 256 := by simp [zaq]
theorem asciiCells_get (l : List UInt8) (b : UInt8) : (zaq l)[b.toNat]? = some (.bool (l.contains b)) := by
 have hb := b.toNat_lt
 simp only [zaq, List.getElem?_map]
 rw [List.getElem?_range hb]
 simp only [Option.map_some, Option.some.injEq, AV.bool.injEq]
 rw [Bool.eq_iff_iff]
 simp only [List.any_eq_true, beq_iff_eq, List.contains_iff_mem]
 constructor
 · rintro ⟨x, hx, e⟩
   rw [<- UInt8.toNat_inj.1 e]; exact hx
 · intro h; exact ⟨b, h, rfl⟩
theorem asciiCells_set (l : List UInt8) (b : UInt8) : (zaq l).set b.toNat (.bool true) = zaq (l ++ [b]) := by
 apply List.ext_getElem?
 intro k
 rw [List.getElem?_set]
 simp only [zaq, List.getElem?_map, List.length_map, List.length_range]
 by_cases hk : k < 256
 · rw [List.getElem?_range hk]
   by_cases e : b.toNat = k
   · subst e; simp [hk]
   · rw [if_neg e]
     simp [e]
 · have : (List.range 256)[k]? = none := List.getElem?_eq_none (by simp; omega)
   rw [this]
   split <;> simp
   omega
@[simp] theorem take_ascii (l : List UInt8) : List.take 256 (zaq l) = zaq l := by rw [List.take_of_length_le]; simp
@[simp] theorem zeroSet : azero Tryz.prog 459 = some (.agg (zaq [])) := by kernel_rfl
@[simp] theorem drop_ascii (l : List UInt8) : List.drop 256 (zaq l) = [] := by rw [List.drop_of_length_le]; simp
@[simp] theorem ascii_scalar (l : List UInt8) : (∀ x ∈ zaq l, x.scalar = true) = True := by
 simp only [eq_iff_iff, iff_true]
 intro x hx
 simp only [zaq, List.mem_map] at hx
 obtain ⟨k, _, rfl⟩ := hx
 rfl
theorem ascii_splice (l : List UInt8) (c : UInt8) : List.take c.toNat (zaq l) ++ AV.bool true :: List.drop (c.toNat + 1) (zaq l) = zaq (l ++ [c]) := by
 have hc := c.toNat_lt
 rw [<- asciiCells_set, List.set_eq_take_append_cons_drop, if_pos (by rw [asciiCells_length]; omega)]
theorem makeSet (chars : List UInt8) (hc : ∀ b ∈ chars, b.toNat < 128) (hl : chars.length <= 1000000) (H : AHeap) : Does Tryz.prog G 340 [.str chars] H fun r H' => r = .tuple [.agg (zaq chars), .bool true] /\ H' = H.push (.cells (zaq chars)) := by
 refine zad Tryz.call340 Tryz.func340 rfl (by simp [Tryz.f340]) ?_
 simp
 refine zaG (fun m T' H' => ∃ a b, chars = a ++ b /\ m = b.length /\ T' 0 = .str chars /\ T' 2 = .ptr H.next 0 /\ T' 4 = .int .i64 a.length /\ H' = H.push (.cells (zaq a))) chars.length ⟨[], chars, rfl, rfl, by simp⟩ ?_
 rintro m T H' ⟨a, b, rfl, rfl, h0, h2, h4, rfl⟩
 cases b with
 | nil => simp [h0, h2, h4]
 | cons c b =>
   have hlt : (a.length : Int) < a.length + (b.length + 1) := by omega
   have hc1 : c.toNat < 128 := hc c (by simp)
   have hc2 : ¬ (128 : Int) <= c.toNat := by omega
   have hc3 : (c.toNat : Int) < 256 := by omega
   have hc4 : c.toNat <= 255 := by omega
   have hw : IntKind.i64.wrap ((a.length : Int) + 1) = a.length + 1 := by
    simp only [List.length_append, List.length_cons] at hl
    exact IntWalk.i64_in _ (by omega)
   simp [h0, h2, h4, hlt, hc2, hc3, hc4, ascii_splice, hw]
   refine ⟨b.length, by omega, a ++ [c], b, by simp, rfl, ?_⟩
   simp
theorem trimASCII (s set : List UInt8) (p : UInt8 -> Bool) (hp : ∀ b, set.contains b = p b) (i : Nat) (H : AHeap) (h : H.get i = some (.cells (zaq set))) : Does Tryz.prog G 341 [.str s, .ptr i 0] H fun r H' => r = .str (s.dropWhile p) /\ H' = H := by
 refine zad Tryz.call341 Tryz.func341 rfl (by simp [Tryz.f341]) ?_
 simp
 refine zaG (fun m T' H' => ∃ q : List UInt8, s.dropWhile p = q.dropWhile p /\ m = q.length /\ T' 0 = .str q /\ T' 1 = .ptr i 0 /\ H' = H) s.length ⟨s, rfl, rfl, by simp⟩ ?_
 rintro m T H' ⟨q, hq, rfl, h0, h1, rfl⟩
 rw [hq]
 cases q with
 | nil => simp [h0, h1]
 | cons b q =>
   have hl : (0 : Int) < q.length + 1 := by omega
   have hl2 : (1 : Int) <= q.length + 1 := by omega
   simp [h0, h1, hl]
   refine zab (asciiContains H' i _ b _ h (by simp) (asciiCells_get set b)) ?_
   rintro _ _ ⟨rfl, rfl⟩
   rw [hp]
   cases hb : p b with
   | true =>
     simp [h0, h1, hb, hl, hl2]
   | false => simp [h0, h1, hb]
theorem trimLeft (s set : List UInt8) (p : UInt8 -> Bool) (hp : ∀ b, set.contains b = p b) (hc : ∀ b ∈ set, b.toNat < 128) (hl : set.length <= 1000000) (h2 : 2 <= set.length) (H : AHeap) : Does Tryz.prog G 313 [.str s, .str set] H fun r H' => r = .str (s.dropWhile p) /\ H' = H := by
 refine Does.forgot (R := fun r H' => r = .str (s.dropWhile p) /\ ∀ j x, H.get j = some x -> H'.get j = some x) ?_ ?_
 · refine Does.wf Tryz.call313 fun hw _ => ?_
   have old : ∀ j x, H.get j = some x -> j ≠ H.next /\ j ≠ H.next + 1 := fun j x hj => by have := zaa hw hj; omega
   refine zad Tryz.call313 Tryz.func313 rfl (by simp [Tryz.f313]) ?_
   have hne : set ≠ [] := fun e => by subst e; simp at h2
   have hn1 : ¬ (set.length : Int) = 1 := by omega
   cases hs : s with
   | nil => simp
   | cons b q =>
     rw [<- hs]
     have hs1 : s.isEmpty = false := by rw [hs]; rfl
     have hs2 : set.isEmpty = false := by cases set <;> simp_all
     simp [hs1, hs2, hn1]
     refine zab (makeSet set hc hl H) ?_
     rintro _ _ ⟨rfl, rfl⟩
     simp
     refine zab (trimASCII s set p hp _ _ (by simp)) ?_
     rintro _ _ ⟨rfl, rfl⟩
     simp
     intro j x hj
     simp [hj, old j x hj]
 · rintro hw ha r H1 ⟨rfl, h⟩
   exact ⟨h, rfl, rfl, rfl⟩
theorem isIdx : IsIdx Tryz.prog 343 := ⟨⟨Tryz.f343, Tryz.func343, by kernel_rfl, by kernel_rfl, by kernel_rfl, by kernel_rfl⟩⟩
def idxB (s : List UInt8) (c : UInt8) : Int := match s.findIdx? (fun b => b == c) with
 | some i => i
 | none => -1
theorem idxB_eq (c : UInt8) : ∀ s : List UInt8, Go.Lib.indexByte s c = idxB s c
 | [] => rfl
 | b :: s => by
   rw [indexByte_cases, idxB_eq c s]
   unfold idxB
   rw [List.findIdx?_cons]
   by_cases h : b = c
   · subst h; simp
   · simp only [h, if_false, beq_iff_eq]
     cases hf : List.findIdx? (fun b => b == c) s with
     | none => simp
     | some i =>
       simp only [Option.map_some]
       rw [if_neg (by omega)]
       omega
theorem indexByteL (s : List UInt8) (c : UInt8) (H : AHeap) : Does Tryz.prog G 315 [.str s, .int .u8 c.toNat] H fun r H' => r = .int .i64 (idxB s c) /\ H' = H := by
 refine zad Tryz.call315 Tryz.func315 rfl (by simp [Tryz.f315]) ?_
 simp
 refine zab (idx_does isIdx s c.toNat H) ?_
 rintro _ _ ⟨rfl, rfl⟩
 have e : ((c.toNat : Int).toNat).toUInt8 = c := by simp
 rw [e, idxB_eq]
 simp
theorem indexByte (s : List UInt8) (c : UInt8) (H : AHeap) : Does Tryz.prog G 269 [.str s, .int .u8 c.toNat] H fun r H' => r = .int .i64 (idxB s c) /\ H' = H := by
 refine zad Tryz.call269 Tryz.func269 rfl (by simp [Tryz.f269]) ?_
 simp
 refine zab (indexByteL s c H) ?_
 rintro _ _ ⟨rfl, rfl⟩
 simp
theorem index1L (s : List UInt8) (c : UInt8) (H : AHeap) : Does Tryz.prog G 344 [.str s, .str [c]] H fun r H' => r = .int .i64 (idxB s c) /\ H' = H := by
 refine zad Tryz.call344 Tryz.func344 rfl (by simp [Tryz.f344]) ?_
 by_cases h : [c] = s
 · subst h
   simp [idxB]
 · have h1 : ([c] == s) = false := by simpa using h
   simp [h1]
   refine zab (indexByteL s c H) ?_
   rintro _ _ ⟨rfl, rfl⟩
   simp
theorem contains1 (s : List UInt8) (c : UInt8) (H : AHeap) : Does Tryz.prog G 270 [.str s, .str [c]] H fun r H' => r = .bool (s.contains c) /\ H' = H := by
 have hk : ∀ H : AHeap, Does Tryz.prog G 316 [.str s, .str [c]] H fun r H' => r = .int .i64 (idxB s c) /\ H' = H := by
  intro H
  refine zad Tryz.call316 Tryz.func316 rfl (by simp [Tryz.f316]) ?_
  simp
  refine zab (index1L s c H) ?_
  rintro _ _ ⟨rfl, rfl⟩
  simp
 refine zad Tryz.call270 Tryz.func270 rfl (by simp [Tryz.f270]) ?_
 simp
 refine zab (hk H) ?_
 rintro _ _ ⟨rfl, rfl⟩
 simp
 unfold idxB
 cases hf : s.findIdx? (fun b => b == c) with
 | none =>
   rw [List.findIdx?_eq_none_iff] at hf
   have : c ∉ s := fun h => by have := hf c h; simp at this
   simp [this]
 | some i =>
   have h := List.findIdx?_eq_some_iff_getElem.1 hf
   obtain ⟨hi, h1, _⟩ := h
   have : c ∈ s := by
    have e : s[i] = c := by simpa using h1
    rw [<- e]; exact List.getElem_mem hi
   simp [this]
theorem sliceIndex (l : List Bs) (s : Bs) (i c : Nat) (op : Bool) (H : AHeap) (hi : H.get i = some (.cells (l.map .str))) (hl : l.length <= 1000000) :
  Does Tryz.prog G 330 [.sl i 0 1 l.length c op, .str s] H fun r H' => (if l.contains s then ∃ k : Nat, r = .int .i64 k else r = .int .i64 (-1)) /\ H' = H := by
 refine zad Tryz.call330 Tryz.func330 rfl (by simp [Tryz.f330]) ?_
 simp
 refine zaG (fun m T' H' => ∃ a b, l = a ++ b /\ m = b.length /\ s ∉ a /\ T' 0 = .sl i 0 1 l.length c op /\ T' 1 = .str s /\ T' 7 = .int .i64 l.length /\ T' 8 = .int .i64 a.length /\ H' = H) l.length ⟨[], l, rfl, rfl, by simp, by simp⟩ ?_
 rintro m T H' ⟨a, b, rfl, rfl, hn, h0, h1, h7, h8, rfl⟩
 simp only [List.length_append] at hl h0 h7
 cases b with
 | nil => simp [h0, h1, h7, h8, hn]
 | cons t b =>
   simp only [List.length_cons] at hl
   have hlt : (a.length : Int) < a.length + (b.length + 1) := by omega
   have hle : a.length <= a.length + (b.length + 1) := by omega
   have hw : IntKind.i64.wrap ((a.length : Int) + 1) = a.length + 1 := IntWalk.i64_in _ (by omega)
   have hd : List.drop a.length (List.map AV.str a) = [] := by rw [List.drop_of_length_le]; simp
   by_cases e : s = t
   · subst e
     simp [h0, h1, h7, h8, hi, hlt, hle, hw, hd]
     exact ⟨a.length, rfl⟩
   · have e1 : (s == t) = false := by simpa using e
     simp [h0, h1, h7, h8, hi, hlt, hle, hw, hd, e1]
     exact ⟨b.length, by omega, a ++ [t], b, by simp, rfl, by simp [hn, e], by simp⟩
theorem sliceContains (l : List Bs) (s : Bs) (i c : Nat) (op : Bool) (H : AHeap) (hi : H.get i = some (.cells (l.map .str))) (hl : l.length <= 1000000) :
  Does Tryz.prog G 295 [.sl i 0 1 l.length c op, .str s] H fun r H' => r = .bool (l.contains s) /\ H' = H := by
 refine zad Tryz.call295 Tryz.func295 rfl (by simp [Tryz.f295]) ?_
 simp
 refine zab (sliceIndex l s i c op H hi hl) ?_
 rintro r _ ⟨hr, rfl⟩
 cases hc : l.contains s with
 | true =>
   rw [hc, if_pos rfl] at hr
   obtain ⟨k, rfl⟩ := hr
   simp
 | false =>
   rw [hc] at hr
   simp only [Bool.false_eq_true, if_false] at hr
   subst hr
   simp
theorem kept_does (s : Bs) (H : AHeap) : Does Tryz.prog G 271 [.str s] H fun r H' => r = .bool (kept s) /\ H' = H := by
 refine Does.forgot (R := fun r H' => r = .bool (kept s) /\ ∀ j x, H.get j = some x -> H'.get j = some x) ?_ ?_
 · refine Does.wf Tryz.call271 fun hw _ => ?_
   have old : ∀ j x, H.get j = some x -> j ≠ H.next := fun j x hj => by have := zaa hw hj; omega
   refine zad Tryz.call271 Tryz.func271 rfl (by simp [Tryz.f271]) ?_
   simp
   refine zab (sliceContains keptWords s H.next 21 false (H.push (.cells (keptWords.map .str))) (by simp) (by decide)) ?_
   rintro _ _ ⟨rfl, rfl⟩
   simp [kept]
   intro j x hj
   simp [hj, old j x hj]
 · rintro hw ha r H1 ⟨rfl, h⟩
   exact ⟨h, rfl, rfl, rfl⟩
theorem while_does (s set : Bs) (p : UInt8 -> Bool) (hp : ∀ b, set.contains b = p b) (hc : ∀ b ∈ set, b.toNat < 128) (hl : set.length <= 1000000) (h2 : 2 <= set.length) (hs : s.length <= 1000000) (H : AHeap) :
  Does Tryz.prog G 267 [.str s, .str set] H fun r H' => r = .int .i64 (s.takeWhile p).length /\ H' = H := by
 refine zad Tryz.call267 Tryz.func267 rfl (by simp [Tryz.f267]) ?_
 simp
 refine zab (trimLeft s set p hp hc hl h2 H) ?_
 rintro _ _ ⟨rfl, rfl⟩
 have e : s.length = (s.takeWhile p).length + (s.dropWhile p).length := by rw [<- List.length_append, List.takeWhile_append_dropWhile]
 have hw : IntKind.i64.wrap ((s.length : Int) - (s.dropWhile p).length) = (s.takeWhile p).length := by
  rw [IntWalk.i64_in _ (by omega)]; omega
 simp [hw]
theorem sign_does (s : Bs) (H : AHeap) : Does Tryz.prog G 273 [.str s] H fun r H' => (match signOf s with | some t => r = .tuple [.agg [.int .i64 4, .str t, .int .i64 0, .int .i64 0], .bool true] | none => r = .tuple [.agg [.int .i64 0, .str [], .int .i64 0, .int .i64 0], .bool false]) /\ H' = H := by
 refine Does.forgot (R := fun r H' => (match signOf s with | some t => r = .tuple [.agg [.int .i64 4, .str t, .int .i64 0, .int .i64 0], .bool true] | none => r = .tuple [.agg [.int .i64 0, .str [], .int .i64 0, .int .i64 0], .bool false]) /\ ∀ j x, H.get j = some x -> H'.get j = some x) ?_ ?_
 · refine Does.wf Tryz.call273 fun hw _ => ?_
   have old : ∀ j x, H.get j = some x -> j ≠ H.next /\ j ≠ H.next + 1 := fun j x hj => by have := zaa hw hj; omega
   have hkeep : ∀ x y, ∀ j z, H.get j = some z -> ((H.push x).push y).get j = some z := fun x y j z hj => by simp [hj, old j z hj]
   refine zad Tryz.call273 Tryz.func273 rfl (by simp [Tryz.f273]) ?_
   simp
   refine zaG (fun m T' H' => ∃ a b, signs = a ++ b /\ m = b.length /\ a.find? (fun x => x.isPrefixOf s) = none /\ T' 0 = .str s /\ T' 2 = .ptr H.next 0 /\ T' 6 = .sl (H.next + 1) 0 1 16 16 false /\ T' 7 = .int .i64 16 /\ T' 8 = .int .i64 a.length /\ T' 3 = .bool false /\
    H' = (H.push (.cells [.int .i64 0, .str [], .int .i64 0, .int .i64 0])).push (.cells (signs.map .str))) 16 ⟨[], signs, rfl, rfl, rfl, by simp [signs]⟩ ?_
   rintro m T H' ⟨a, b, hab, rfl, hn, h0, h2, h6, h7, h8, h3, rfl⟩
   have hlen : a.length + b.length = 16 := by rw [<- List.length_append, <- hab]; rfl
   cases b with
   | nil =>
     have ha : a.length = 16 := by simpa using hlen
     have hs : signOf s = none := by
      unfold signOf
      rw [hab, List.append_nil]; exact hn
     simp [h0, h2, h6, h7, h8, ha, hs]
     intro j x hj
     simp [hj, old j x hj]
   | cons t b =>
     simp only [List.length_cons] at hlen
     have hlt : (a.length : Int) < 16 := by omega
     have hlt2 : a.length <= 16 := by omega
     have hlt3 : a.length < 16 := by omega
     have hw1 : IntKind.i64.wrap ((a.length : Int) + 1) = a.length + 1 := IntWalk.i64_in _ (by omega)
     have hd : List.drop a.length (List.map AV.str signs) = .str t :: b.map .str := by
      rw [hab, List.map_append, List.drop_left' (by simp)]; rfl
     have hsl : signs.length = 16 := rfl
     simp [h0, h2, h6, h7, h8, hlt, hlt2, hlt3, hd, hsl]
     refine zab (hasPrefix s t _) ?_
     rintro _ _ ⟨rfl, rfl⟩
     cases hp : t.isPrefixOf s with
     | true =>
       have hs : signOf s = some t := by
        unfold signOf
        rw [hab, List.find?_append, hn]
        simp [hp]
       simp [h0, h2, h6, h7, h8, hs]
       intro j x hj
       simp [hj, old j x hj]
     | false =>
       simp [h0, h2, h6, h7, h8, hw1]
       refine ⟨b.length, by omega, a ++ [t], b, by simp [hab], rfl, ?_, ?_⟩
       · rw [List.find?_eq_none] at hn
         intro x hx
         simp only [List.mem_append, List.mem_singleton] at hx
         rcases hx with hx | rfl
         · have := hn x hx
           rw [<- List.isPrefixOf_iff_prefix]; simpa using this
         · rw [<- List.isPrefixOf_iff_prefix, hp]; simp
       · simp [h3]
 · rintro hw ha r H1 ⟨hr, h⟩
   refine ⟨h, ?_, hr, rfl⟩
   cases hs : signOf s <;> rw [hs] at hr <;> subst hr <;> rfl
theorem drop_takeWhile (p : UInt8 -> Bool) : ∀ s : Bs, s.drop (s.takeWhile p).length = s.dropWhile p
 | [] => rfl
 | b :: s => by
   rw [List.takeWhile_cons, List.dropWhile_cons]
   split
   · simpa using drop_takeWhile p s
   · rfl
theorem betw_line (s q : Bs) (h : s.dropWhile zax = 45 :: 45 :: q) : betw s = betw (q.dropWhile fun b => b != 10) := by
 rw [betw]
 split
 · rename_i q' h'
   rw [h] at h'
   simp only [List.cons.injEq, true_and] at h'
   rw [h']
 · rename_i h'
   exact absurd h (h' q)
theorem betw_word (s : Bs) (h : ([45, 45] : Bs).isPrefixOf (s.dropWhile zax) = false) : betw s = s.dropWhile zax := by
 rw [betw]
 split
 · rename_i q hq
   rw [hq] at h
   simp [List.isPrefixOf] at h
 · rfl
theorem betw_nil : betw [] = [] := betw_word [] rfl
@[simp] theorem take_drop_all {α : Type} (l : List α) (n : Nat) : List.take (l.length - n) (l.drop n) = l.drop n := by rw [List.take_of_length_le]; simp
theorem idxB_none {s : Bs} {c : UInt8} (h : s.findIdx? (fun b => b == c) = none) : s.dropWhile (fun b => b != c) = [] := by
 rw [List.findIdx?_eq_none_iff] at h
 induction s with
 | nil => rfl
 | cons b s ih =>
   rw [List.dropWhile_cons]
   have := h b (by simp)
   have e : (b != c) = true := by simp only [bne, this]; rfl
   rw [if_pos e]
   exact ih fun x hx => h x (by simp [hx])
theorem idxB_some {s : Bs} {c : UInt8} {i : Nat} (h : s.findIdx? (fun b => b == c) = some i) : s.dropWhile (fun b => b != c) = s.drop i /\ i < s.length := by
 induction s generalizing i with
 | nil => simp at h
 | cons b s ih =>
   rw [List.findIdx?_cons] at h
   rw [List.dropWhile_cons]
   by_cases e : b = c
   · subst e
     simp at h
     subst h
     simp
   · have e1 : (b == c) = false := by simpa using e
     have e2 : (b != c) = true := by simp [bne, e1]
     rw [e1] at h
     simp only [Bool.false_eq_true, if_false, Option.map_eq_some_iff] at h
     obtain ⟨j, hj, rfl⟩ := h
     obtain ⟨h1, h2⟩ := ih hj
     rw [if_pos e2]
     exact ⟨by simpa using h1, by simp; omega⟩
theorem blankSet (b : UInt8) : ([32, 9, 10, 13] : Bs).contains b = zax b := by
 rw [Bool.eq_iff_iff]
 simp [zax, or_assoc]
theorem between_does (s : Bs) (hl : s.length <= 1000000) (H : AHeap) : Does Tryz.prog G 223 [.str s] H fun r H' => (∃ n : Nat, r = .int .i64 n /\ n <= s.length /\ s.drop n = betw s) /\ H' = H := by
 refine zad Tryz.call223 Tryz.func223 rfl (by simp [Tryz.f223]) ?_
 simp
 refine zaG (fun m T' H' => ∃ n : Nat, n <= s.length /\ m = s.length - n /\ betw (s.drop n) = betw s /\ T' 0 = .str s /\ T' 3 = .int .i64 n /\ H' = H) s.length ⟨0, by omega, by omega, rfl, by simp⟩ ?_
 rintro m T H' ⟨n, hn, rfl, hb, h0, h3, rfl⟩
 have hn1 : (n : Int) <= s.length := by omega
 simp [h0, h3, hn, hn1]
 have hdl : (s.drop n).length = s.length - n := by simp
 refine zab (while_does (s.drop n) _ zax blankSet (by decide) (by decide) (by decide) (by omega) _) ?_
 rintro _ _ ⟨rfl, rfl⟩
 have htl : ((s.drop n).takeWhile zax).length <= s.length - n := by
  rw [<- hdl]; exact (List.takeWhile_prefix zax).length_le
 have hdd : s.drop (n + ((s.drop n).takeWhile zax).length) = (s.drop n).dropWhile zax := by
  rw [<- List.drop_drop, drop_takeWhile]
 obtain ⟨k, hk⟩ : ∃ k, k = ((s.drop n).takeWhile zax).length := ⟨_, rfl⟩
 rw [<- hk] at htl hdd ⊢
 obtain ⟨j, hj⟩ : ∃ j, j = n + k := ⟨_, rfl⟩
 have hw1 : IntKind.i64.wrap ((n : Int) + k) = (j : Int) := by rw [IntWalk.i64_in _ (by omega)]; omega
 have hk1 : (j : Int) <= s.length := by omega
 have hk2 : j <= s.length := by omega
 rw [<- hj] at hdd
 simp [h0, h3, hw1, hk1, hk2]
 refine zab (hasPrefix (s.drop j) [45, 45] _) ?_
 rintro _ _ ⟨rfl, rfl⟩
 cases hp : ([45, 45] : Bs).isPrefixOf (s.drop j) with
 | false =>
   simp [h0, h3]
   refine ⟨j, rfl, hk2, ?_⟩
   rw [<- hb, betw_word _ (by rw [<- hdd]; exact hp), hdd]
 | true =>
   simp [h0, h3, hk1, hk2]
   refine zab (indexByte (s.drop j) 10 _) ?_
   rintro _ _ ⟨rfl, rfl⟩
   obtain ⟨q, hq⟩ : ∃ q, s.drop j = 45 :: 45 :: q := by
    rw [List.isPrefixOf_iff_prefix] at hp
    obtain ⟨t, ht⟩ := hp
    exact ⟨t, ht.symm⟩
   have hbq : betw s = betw ((s.drop j).dropWhile fun b => b != 10) := by
    rw [<- hb, betw_line _ q (by rw [<- hdd]; exact hq), hq]
    rfl
   unfold idxB
   cases hf : (s.drop j).findIdx? (fun b => b == 10) with
   | none =>
     simp [h0, h3]
     refine ⟨s.length, rfl, Nat.le_refl _, ?_⟩
     rw [hbq, idxB_none hf, betw_nil]; simp
   | some i =>
     obtain ⟨g1, g2⟩ := idxB_some hf
     have g3 : ¬ ((i : Int) < 0) := by omega
     have hi2 : 2 <= i := by
      rw [hq] at hf
      rw [List.findIdx?_cons, List.findIdx?_cons] at hf
      simp at hf
      omega
     simp only [List.length_drop] at g2
     have hw2 : IntKind.i64.wrap ((j : Int) + i) = ((j + i : Nat) : Int) := by rw [IntWalk.i64_in _ (by omega)]; omega
     simp [h0, h3, g3, hw2]
     refine ⟨s.length - (j + i), by omega, j + i, by omega, rfl, ?_, by omega⟩
     rw [hbq, g1, List.drop_drop]
theorem numVal_snoc (s : Bs) (b : UInt8) : za2 (s ++ [b]) = 10 * za2 s + (b.toNat - 48) := by simp [za2]
theorem numVal_ge (a : Bs) : ∀ b : Bs, za2 a <= za2 (a ++ b) := by
 intro b
 induction b generalizing a with
 | nil => simp
 | cons c b ih =>
   have := ih (a ++ [c])
   rw [numVal_snoc, List.append_assoc] at this
   simp only [List.singleton_append] at this
   omega
theorem strCs_append' (a b : Bs) : strCs (a ++ b) = strCs a ++ strCs b := by simp [strCs]
theorem wrap_u64 (n : Int) (h0 : 0 <= n) (h1 : n < 18446744073709551616) : IntKind.u64.wrap n = n := by
 unfold IntKind.wrap
 simp only [IntKind.signed, IntKind.bits, Bool.false_and, Bool.false_eq_true, if_false]
 exact Int.emod_eq_of_lt h0 (by omega)
theorem wrap_u64' (n : Int) (h0 : 18446744073709551616 <= n) (h1 : n < 36893488147419103232) : IntKind.u64.wrap n = n - 18446744073709551616 := by
 unfold IntKind.wrap
 simp only [IntKind.signed, IntKind.bits, Bool.false_and, Bool.false_eq_true, if_false]
 omega
theorem wrap_u8 (n : Int) (h0 : 0 <= n) (h1 : n < 256) : IntKind.u8.wrap n = n := by
 unfold IntKind.wrap
 simp only [IntKind.signed, IntKind.bits, Bool.false_and, Bool.false_eq_true, if_false]
 exact Int.emod_eq_of_lt h0 (by omega)
@[simp] theorem concErr : Tryz.prog.concrete 473 = true := by kernel_rfl
@[simp] theorem concNum : Tryz.prog.concrete 476 = true := by kernel_rfl
def uintOf (s : Bs) : AV := if za2 s < 18446744073709551616 then .tuple [.int .u64 (za2 s), .niliface] else .tuple [.int .u64 18446744073709551615, .iface 473 (.int .i64 1)]
theorem parseUint (s : Bs) (hd : ∀ b ∈ s, zau b = true) (hs : s ≠ []) (hl : s.length <= 1000000) (H : AHeap) :
  Does Tryz.prog G 361 [.str s, .int .i64 10, .int .i64 64] H fun r H' => r = uintOf s /\ H' = H := by
 refine Does.forgot (R := fun r H' => r = uintOf s /\ ∀ j x, H.get j = some x -> H'.get j = some x) ?_ ?_
 · refine Does.wf Tryz.call361 fun hw _ => ?_
   have old : ∀ j x, H.get j = some x -> j ≠ H.next := fun j x hj => by have := zaa hw hj; omega
   refine zad Tryz.call361 Tryz.func361 rfl (by simp [Tryz.f361]) ?_
   have hs1 : s.isEmpty = false := by cases s <;> simp_all
   have e1 : IntKind.u64.wrap 64 = 64 := by decide
   have e2 : IntKind.u64.wrap (2 ^ min 64 IntKind.u64.bits) = 0 := by decide
   have e3 : IntKind.u64.wrap (-1) = 18446744073709551615 := by decide
   simp [hs1, e1, e2, e3]
   refine zaG (fun m T' H' => ∃ a b, s = a ++ b /\ m = b.length /\ za2 a < 18446744073709551616 /\ T' 1 = .int .i64 10 /\ T' 8 = .bool false /\ T' 10 = .int .u64 1844674407370955162 /\ T' 11 = .int .u64 18446744073709551615 /\ T' 12 = .bool false /\ T' 13 = .int .u64 (za2 a) /\
    T' 99 = .sl H.next 0 1 s.length s.length true /\ T' 100 = .int .i64 s.length /\ T' 101 = .int .i64 a.length /\ H' = H.push (.cells (strCs s))) s.length ⟨[], s, rfl, rfl, by decide, by simp [za2, strCs]⟩ ?_
   rintro m T H' ⟨a, b, rfl, rfl, hv, h1, h8, h10, h11, h12, h13, h99, h100, h101, rfl⟩
   simp only [List.length_append] at hl h99 h100
   cases b with
   | nil =>
     simp [h1, h8, h10, h11, h12, h13, h99, h100, h101]
     refine ⟨?_, ?_⟩
     · simp [uintOf, hv]
     · intro j x hj
       simp [hj, old j x hj]
   | cons c b =>
     simp only [List.length_cons] at hl
     have hc := hd c (by simp)
     simp only [zau, Bool.and_eq_true, decide_eq_true_eq] at hc
     obtain ⟨hc1, hc2⟩ := hc
     obtain ⟨d, hdd⟩ : ∃ d, d = c.toNat - 48 := ⟨_, rfl⟩
     have hlt : (a.length : Int) < a.length + (b.length + 1) := by omega
     have hle : a.length <= a.length + (b.length + 1) := by omega
     have hw1 : IntKind.i64.wrap ((a.length : Int) + 1) = a.length + 1 := IntWalk.i64_in _ (by omega)
     have hdr : List.drop a.length (strCs (a ++ c :: b)) = .int .u8 c.toNat :: strCs b := by
      rw [strCs_append', List.drop_left' (by simp [strCs])]; rfl
     have hsl : (strCs (a ++ c :: b)).length = a.length + (b.length + 1) := by simp [strCs]
     have n1 : ¬ (c.toNat : Int) = 95 := by omega
     have n2 : (48 : Int) <= c.toNat := by omega
     have n3 : (c.toNat : Int) <= 57 := by omega
     have n4 : IntKind.u8.wrap ((c.toNat : Int) - 48) = d := by rw [wrap_u8 _ (by omega) (by omega)]; omega
     have n5 : IntKind.u8.wrap 10 = 10 := by decide
     have n6 : ¬ (10 : Int) <= d := by omega
     have n7 : IntKind.u64.wrap 10 = 10 := by decide
     have n8 : IntKind.u64.wrap (d : Int) = d := wrap_u64 _ (by omega) (by omega)
     have hn : za2 (a ++ [c]) = 10 * za2 a + d := by rw [numVal_snoc]; omega
     have hge := numVal_ge (a ++ [c]) b
     rw [List.append_assoc, List.singleton_append] at hge
     obtain ⟨v, hvv⟩ : ∃ v, v = za2 a := ⟨_, rfl⟩
     rw [<- hvv] at hv h13 hn
     by_cases g1 : 1844674407370955162 <= v
     · have g1' : (1844674407370955162 : Int) <= v := by omega
       have hbig : ¬ za2 (a ++ c :: b) < 18446744073709551616 := by omega
       simp [h1, h8, h10, h11, h12, h13, h99, h100, h101, hlt, hle, hdr, hsl, n1, n2, n3, n4, n5, n6, n7, n8, g1']
       refine ⟨?_, ?_⟩
       · unfold uintOf; rw [if_neg hbig]
       · intro j x hj
         simp [hj, old j x hj]
     · have g1' : ¬ (1844674407370955162 : Int) <= v := by omega
       have m1 : IntKind.u64.wrap ((v : Int) * 10) = v * 10 := wrap_u64 _ (by omega) (by omega)
       by_cases g2 : 10 * v + d < 18446744073709551616
       · have m2 : IntKind.u64.wrap ((v : Int) * 10 + d) = v * 10 + d := wrap_u64 _ (by omega) (by omega)
         have m3 : ¬ ((v : Int) * 10 + d < v * 10) := by omega
         have m4 : ¬ ((18446744073709551615 : Int) < v * 10 + d) := by omega
         simp [h1, h8, h10, h11, h12, h13, h99, h100, h101, hlt, hle, hdr, hsl, n1, n2, n3, n4, n5, n6, n7, n8, g1', m1, m2, m3, m4, hw1]
         refine ⟨b.length, by omega, a ++ [c], b, by simp, rfl, by omega, ?_⟩
         simp [hn]
         omega
       · have m2 : IntKind.u64.wrap ((v : Int) * 10 + d) = v * 10 + d - 18446744073709551616 := wrap_u64' _ (by omega) (by omega)
         have m3 : ((v : Int) * 10 + d - 18446744073709551616 < v * 10) := by omega
         have hbig : ¬ za2 (a ++ c :: b) < 18446744073709551616 := by omega
         simp [h1, h8, h10, h11, h12, h13, h99, h100, h101, hlt, hle, hdr, hsl, n1, n2, n3, n4, n5, n6, n7, n8, g1', m1, m2, m3]
         refine ⟨?_, ?_⟩
         · unfold uintOf; rw [if_neg hbig]
         · intro j x hj
           simp [hj, old j x hj]
 · rintro hw ha r H1 ⟨rfl, h⟩
   refine ⟨h, ?_, rfl, rfl⟩
   unfold uintOf; split <;> rfl
theorem wrap_i64 (n : Int) (h0 : 0 <= n) (h1 : n < 9223372036854775808) : IntKind.i64.wrap n = n := IntWalk.i64_in _ (by omega)
def intOf (s : Bs) : AV := if za2 s < 9223372036854775808 then .tuple [.int .i64 (za2 s), .niliface] else .tuple [.int .i64 9223372036854775807, .iface 473 (.int .i64 1)]
theorem parseInt (s : Bs) (hd : ∀ b ∈ s, zau b = true) (hs : s ≠ []) (hl : s.length <= 1000000) (H : AHeap) :
  Does Tryz.prog G 345 [.str s, .int .i64 10, .int .i64 64] H fun r H' => r = intOf s /\ H' = H := by
 refine zad Tryz.call345 Tryz.func345 rfl (by simp [Tryz.f345]) ?_
 cases s with
 | nil => exact absurd rfl hs
 | cons c q =>
   have hc := hd c (by simp)
   simp only [zau, Bool.and_eq_true, decide_eq_true_eq] at hc
   have n1 : ¬ (c.toNat : Int) = 43 := by omega
   have n2 : ¬ (c.toNat : Int) = 45 := by omega
   have m1 : (0 : Int) < q.length + 1 := by omega
   simp [n1, n2, m1]
   refine zab (parseUint (c :: q) hd hs hl H) ?_
   rintro _ _ ⟨rfl, rfl⟩
   have e1 : IntKind.u64.wrap 63 = 63 := by decide
   have e2 : IntKind.u64.wrap (2 ^ min 63 IntKind.u64.bits) = 9223372036854775808 := by decide
   have e3 : IntKind.u64.wrap 9223372036854775807 = 9223372036854775807 := by decide
   have e4 : IntKind.i64.wrap 9223372036854775807 = 9223372036854775807 := by decide
   have e5 : IntKind.i64.wrap 63 = 63 := by decide
   have e6 : Tryz.t473.comparable = true := by kernel_rfl
   obtain ⟨v, hv⟩ : ∃ v, v = za2 (c :: q) := ⟨_, rfl⟩
   unfold uintOf intOf
   rw [<- hv]
   by_cases g1 : v < 9223372036854775808
   · have g2 : v < 18446744073709551616 := by omega
     have g3 : ¬ (9223372036854775808 : Int) <= v := by omega
     have g4 : IntKind.i64.wrap (v : Int) = v := wrap_i64 _ (by omega) (by omega)
     rw [if_pos g2, if_pos g1]
     simp [e1, e2, e3, e4, e5, e6, g3, g4]
   · rw [if_neg g1]
     by_cases g2 : v < 18446744073709551616
     · have g3 : (9223372036854775808 : Int) <= v := by omega
       rw [if_pos g2]
       simp [e1, e2, e3, e4, e5, e6, g3]
     · rw [if_neg g2]
       simp [e1, e2, e3, e4, e5, e6]
theorem mixedOrders : Tryz.prog.follows .mixedOrders = true := by kernel_rfl
def HasErr (G : Nat -> Option AV) : Prop := ∃ t v, G 2 = some (.vptr [.iface t v])
theorem rangeError (s : Bs) (fn : Bs) (hl : s.length <= 1000000) (hG : HasErr G) (H : AHeap) : Does Tryz.prog G 363 [.str fn, .str s] H fun r H' => r = .ptr H.next 0 /\ ∃ cs, H' = H.push (.cells cs) := by
 obtain ⟨et, ev, he⟩ := hG
 refine zad Tryz.call363 Tryz.func363 rfl (by simp [Tryz.f363]) ?_
 simp
 refine zam [(3, 0), (3, 3)] ?_ ?_ ?_
 · exact mixedOrders
 · kernel_rfl
 intro es hes
 simp
 refine ⟨_, _, copy_does isCopy s (by omega) H, by simp, ?_⟩
 simp [he, rds, heapF]
 refine ⟨?_, _, rfl⟩
 subst hes
 exact ⟨by kernel_rfl, by kernel_rfl⟩
theorem toError (s : Bs) (fn : Bs) (hl : s.length <= 1000000) (hG : HasErr G) (H : AHeap) : Does Tryz.prog G 346 [.str fn, .str s, .int .i64 10, .int .i64 64, .iface 473 (.int .i64 1)] H fun r H' => r = .iface 476 (.ptr H.next 0) /\ ∃ cs, H' = H.push (.cells cs) := by
 have e6 : Tryz.t473.comparable = true := by kernel_rfl
 refine zad Tryz.call346 Tryz.func346 rfl (by simp [Tryz.f346]) ?_
 simp [e6]
 refine zab (rangeError s fn hl hG H) ?_
 rintro _ _ ⟨rfl, cs, rfl⟩
 simp
 exact ⟨cs, rfl⟩
theorem parseInt' (s : Bs) (hd : ∀ b ∈ s, zau b = true) (hs : s ≠ []) (hl : s.length <= 1000000) (hG : HasErr G) (H : AHeap) :
  Does Tryz.prog G 317 [.str s, .int .i64 10, .int .i64 64] H fun r H' => (if za2 s < 9223372036854775808 then r = .tuple [.int .i64 (za2 s), .niliface] /\ H' = H else r = .tuple [.int .i64 9223372036854775807, .iface 476 (.ptr H.next 0)] /\ ∃ cs, H' = H.push (.cells cs)) := by
 refine zad Tryz.call317 Tryz.func317 rfl (by simp [Tryz.f317]) ?_
 simp
 refine zab (parseInt s hd hs hl H) ?_
 rintro _ _ ⟨rfl, rfl⟩
 unfold intOf
 by_cases h : za2 s < 9223372036854775808
 · rw [if_pos h]
   simp [h]
 · rw [if_neg h]
   simp [h]
   refine zab (toError s _ hl hG _) ?_
   rintro _ _ ⟨rfl, cs, rfl⟩
   simp
   exact ⟨by omega, cs, rfl⟩
def numN (s : Bs) : Int := if za2 s < 9223372036854775808 then za2 s else 9223372036854775807
def numOk (s : Bs) : Bool := decide (za2 s < 9223372036854775808) && (decide (s.length = 1) || decide (s.head? ≠ some 48))
theorem number_does (s : Bs) (hd : ∀ b ∈ s, zau b = true) (hs : s ≠ []) (hl : s.length <= 1000000) (hG : HasErr G) (H : AHeap) :
  Does Tryz.prog G 272 [.str s] H fun r H' => r = .tuple [.agg [.int .i64 3, .str s, .int .i64 (numN s), .int .i64 0], .bool (numOk s)] /\ H' = H := by
 refine Does.forgot (R := fun r H' => r = .tuple [.agg [.int .i64 3, .str s, .int .i64 (numN s), .int .i64 0], .bool (numOk s)] /\ ∀ j x, H.get j = some x -> H'.get j = some x) ?_ ?_
 · refine Does.wf Tryz.call272 fun hw _ => ?_
   have old : ∀ j x, H.get j = some x -> j ≠ H.next /\ j ≠ H.next + 1 := fun j x hj => by have := zaa hw hj; omega
   refine zad Tryz.call272 Tryz.func272 rfl (by simp [Tryz.f272]) ?_
   simp
   refine zab (parseInt' s hd hs hl hG _) ?_
   rintro r H1 hr
   obtain ⟨c, q, rfl⟩ : ∃ c q, s = c :: q := by
    cases s with
    | nil => exact absurd rfl hs
    | cons c q => exact ⟨c, q, rfl⟩
   have h0 : (0 : Int) < q.length + 1 := by omega
   have hg : (if za2 (c :: q) < 9223372036854775808 then r = .tuple [.int .i64 (za2 (c :: q)), .niliface] else ∃ i, r = .tuple [.int .i64 9223372036854775807, .iface 476 (.ptr i 0)]) /\ H1.get H.next = some (.cells [.int .i64 0, .str [], .int .i64 0, .int .i64 0]) /\ ∀ j x, H.get j = some x -> H1.get j = some x := by
    by_cases h : za2 (c :: q) < 9223372036854775808
    · rw [if_pos h] at hr ⊢
      obtain ⟨rfl, rfl⟩ := hr
      exact ⟨rfl, by simp, fun j x hj => by simp [hj, old j x hj]⟩
    · rw [if_neg h] at hr ⊢
      obtain ⟨rfl, cs, rfl⟩ := hr
      exact ⟨⟨_, rfl⟩, by simp, fun j x hj => by simp [hj, old j x hj]⟩
   clear hr
   obtain ⟨hr, hf, hk⟩ := hg
   have fin : ∀ j x, H.get j = some x -> ∀ cs, (H1.set H.next (.cells cs)).get j = some x := fun j x hj cs => by
    simp only [AHeap.get_set]
    rw [if_neg (old j x hj).1]; exact hk j x hj
   by_cases h : za2 (c :: q) < 9223372036854775808
   · rw [if_pos h] at hr
     subst hr
     simp
     refine zam [] mixedOrders (by kernel_rfl) ?_
     intro es hes
     by_cases hq : q = []
     · subst hq
       simp [hf, rds]
       refine ⟨?_, ?_, fun j x hj => ?_⟩
       · subst hes
         exact ⟨by kernel_rfl, by kernel_rfl⟩
       · simp [numN, numOk, h]
       · simp [old j x hj, hk j x hj]
     · have hq0 : q.length ≠ 0 := by simpa using hq
       have hq1 : ¬ ((q.length : Int) + 1 = 1) := by omega
       have hq2 : ((c.toNat : Int) = 48) ↔ c = 48 := by
        constructor
        · intro e
          have e1 : c.toNat = (48 : UInt8).toNat := by simpa using (by omega : c.toNat = 48)
          exact UInt8.toNat_inj.1 e1
        · rintro rfl; rfl
       simp [hf, rds, hq, hq1, h0]
       refine ⟨?_, ?_, fun j x hj => ?_⟩
       · subst hes
         exact ⟨by kernel_rfl, by kernel_rfl⟩
       · have hq3 : ((c.toNat : Int) != 48) = !decide (c = 48) := by
          rw [Bool.eq_iff_iff]
          simp [hq2]
         simp [numN, numOk, h, hq, hq3]
       · simp [old j x hj, hk j x hj]
   · rw [if_neg h] at hr
     obtain ⟨i, rfl⟩ := hr
     simp
     refine zam [] mixedOrders (by kernel_rfl) ?_
     intro es hes
     simp [hf, rds]
     refine ⟨?_, ?_, fun j x hj => ?_⟩
     · subst hes
       exact ⟨by kernel_rfl, by kernel_rfl⟩
     · simp [numN, numOk, h]
     · simp [old j x hj, hk j x hj]
 · rintro hw ha r H1 ⟨rfl, h⟩
   exact ⟨h, rfl, rfl, rfl⟩
def lettersL : Bs := [97,98,99,100,101,102,103,104,105,106,107,108,109,110,111,112,113,114,115,116,117,118,119,120,121,122]
def digitsL : Bs := [48,49,50,51,52,53,54,55,56,57]
def namesL : Bs := [97,98,99,100,101,102,103,104,105,106,107,108,109,110,111,112,113,114,115,116,117,118,119,120,121,122,48,49,50,51,52,53,54,55,56,57,95]
theorem byAll (p q : UInt8 -> Bool) (h : ∀ n : Fin 256, p (UInt8.ofNat n.val) = q (UInt8.ofNat n.val)) (b : UInt8) : p b = q b := by
 have := h ⟨b.toNat, b.toNat_lt⟩
 simpa using this
theorem letters_eq (b : UInt8) : lettersL.contains b = isLetter b := byAll _ _ (by decide +kernel) b
theorem digits_eq (b : UInt8) : digitsL.contains b = zau b := byAll _ _ (by decide +kernel) b
theorem names_eq (b : UInt8) : namesL.contains b = zaV b := byAll _ _ (by decide +kernel) b
theorem take_takeWhile (p : UInt8 -> Bool) (s : Bs) : s.take (s.takeWhile p).length = s.takeWhile p := by
 have := List.takeWhile_prefix p (l := s)
 rw [List.prefix_iff_eq_take] at this
 exact this.symm
def wdCells (w : Wd) (i : Nat) : List AV := [.int .i64 w.kind, .str w.text, .int .i64 w.n, .int .i64 i]
def WordIs (s : Bs) (r : AV) : Prop := match wordS s with
 | some w => r = .tuple [.agg (wdCells w 0), .bool true]
 | none => ∃ k t n, r = .tuple [.agg [.int .i64 k, .str t, .int .i64 n, .int .i64 0], .bool false]
theorem word_does (c : UInt8) (q : Bs) (hl : (c :: q).length <= 1000000) (hG : HasErr G) (H : AHeap) : Does Tryz.prog G 224 [.str (c :: q)] H fun r H' => WordIs (c :: q) r /\ H' = H := by
 refine Does.forgot (R := fun r H' => WordIs (c :: q) r /\ ∀ j x, H.get j = some x -> H'.get j = some x) ?_ ?_
 · refine Does.wf Tryz.call224 fun hw _ => ?_
   have old : ∀ j x, H.get j = some x -> j ≠ H.next /\ j ≠ H.next + 1 := fun j x hj => by have := zaa hw hj; omega
   refine zad Tryz.call224 Tryz.func224 rfl (by simp [Tryz.f224]) ?_
   have m1 : (1 : Int) <= q.length + 1 := by omega
   simp [m1]
   refine zab (contains1 lettersL c _) ?_
   rintro _ _ ⟨rfl, rfl⟩
   rw [letters_eq]
   cases hL : isLetter c with
   | true =>
     simp
     refine zab (while_does (c :: q) namesL zaV names_eq (by decide) (by decide) (by decide) hl _) ?_
     rintro _ _ ⟨rfl, rfl⟩
     have ht := take_takeWhile zaV (c :: q)
     have hle : ((c :: q).takeWhile zaV).length <= (c :: q).length := (List.takeWhile_prefix zaV).length_le
     obtain ⟨t, htt⟩ : ∃ t, t = (c :: q).takeWhile zaV := ⟨_, rfl⟩
     rw [<- htt] at ht hle ⊢
     simp only [List.length_cons] at hle
     have hle' : (t.length : Int) <= q.length + 1 := by omega
     simp [hle, hle', ht]
     refine zab (kept_does t _) ?_
     rintro _ _ ⟨rfl, rfl⟩
     cases hk : kept t with
     | true =>
       simp
       refine ⟨?_, ?_⟩
       · simp [WordIs, wordS, hL, <- htt, hk, wdCells]
       · intro j x hj
         simp [hj, old j x hj]
     | false =>
       simp
       refine ⟨?_, ?_⟩
       · by_cases h24 : t.length <= 24
         · have : (t.length : Int) <= 24 := by omega
           simp [WordIs, wordS, hL, <- htt, hk, wdCells, h24, this]
         · have : ¬ (t.length : Int) <= 24 := by omega
           simp [WordIs, wordS, hL, <- htt, hk, wdCells, h24, this]
       · intro j x hj
         simp [hj, old j x hj]
   | false =>
     simp
     refine zab (contains1 digitsL c _) ?_
     rintro _ _ ⟨rfl, rfl⟩
     rw [digits_eq]
     cases hD : zau c with
     | true =>
       simp
       refine zab (while_does (c :: q) digitsL zau digits_eq (by decide) (by decide) (by decide) hl _) ?_
       rintro _ _ ⟨rfl, rfl⟩
       have ht := take_takeWhile zau (c :: q)
       have hle : ((c :: q).takeWhile zau).length <= (c :: q).length := (List.takeWhile_prefix zau).length_le
       have hall : ∀ b ∈ (c :: q).takeWhile zau, zau b = true := fun b hb => List.all_eq_true.1 (List.all_takeWhile) b hb
       have hcons : (c :: q).takeWhile zau = c :: q.takeWhile zau := by rw [List.takeWhile_cons, if_pos hD]
       obtain ⟨t, htt⟩ : ∃ t, t = (c :: q).takeWhile zau := ⟨_, rfl⟩
       rw [<- htt] at ht hle hall hcons ⊢
       simp only [List.length_cons] at hle hl
       have hle' : (t.length : Int) <= q.length + 1 := by omega
       simp [hle, hle', ht]
       refine zab (number_does t hall (by rw [hcons]; simp) (by omega) hG _) ?_
       rintro _ _ ⟨rfl, rfl⟩
       simp
       refine ⟨?_, ?_⟩
       · have hh : t.head? = some c := by rw [hcons]; rfl
         unfold WordIs wordS numOk numN
         simp only [hL, hD, <- htt, hh]
         by_cases g1 : za2 t < 9223372036854775808
         · by_cases g2 : t.length = 1 \/ c ≠ 48
           · rcases g2 with g2 | g2 <;> simp [g1, g2, wdCells]
           · simp only [not_or] at g2
             simp [g1, g2.1, Decidable.not_not.1 g2.2]
         · simp [g1]
       · intro j x hj
         simp [hj, old j x hj]
     | false =>
       simp
       refine zab (sign_does (c :: q) _) ?_
       rintro r _ ⟨hr, rfl⟩
       cases hs : signOf (c :: q) with
       | some t =>
         rw [hs] at hr
         simp only at hr
         subst hr
         simp
         refine ⟨?_, ?_⟩
         · simp [WordIs, wordS, hL, hD, hs, wdCells]
         · intro j x hj
           simp [hj, old j x hj]
       | none =>
         rw [hs] at hr
         simp only at hr
         subst hr
         simp
         refine ⟨?_, ?_⟩
         · simp [WordIs, wordS, hL, hD, hs, wdCells]
         · intro j x hj
           simp [hj, old j x hj]
 · rintro hw ha r H1 ⟨hr, h⟩
   refine ⟨h, ?_, hr, rfl⟩
   unfold WordIs at hr
   split at hr
   · subst hr; rfl
   · obtain ⟨k, t, n, rfl⟩ := hr; rfl
def flatW : List (Nat × Wd) -> List AV
 | [] => []
 | (i, w) :: l => wdCells w i ++ flatW l
theorem flatW_append (a b : List (Nat × Wd)) : flatW (a ++ b) = flatW a ++ flatW b := by
 induction a with
 | nil => rfl
 | cons x a ih => obtain ⟨i, w⟩ := x; simp [flatW, ih]
@[simp] theorem wdCells_length (w : Wd) (i : Nat) : (wdCells w i).length = 4 := rfl
@[simp] theorem flatW_length (l : List (Nat × Wd)) : (flatW l).length = l.length * 4 := by
 induction l with
 | nil => rfl
 | cons x l ih => obtain ⟨i, w⟩ := x; simp [flatW, ih]; omega
def cutAns (t : Bs) : AV := if 16384 < t.length then .tuple [.nilsl, .agg [.int .i64 2, .int .i64 t.length]] else match cutS t.length t with
 | .ok l => .tuple [.vsl (flatW l ++ [.int .i64 0, .str [], .int .i64 0, .int .i64 t.length]) (l.length + 1), .agg [.int .i64 0, .int .i64 0]]
 | .error e => .tuple [.nilsl, .agg [.int .i64 7, .int .i64 e]]
def Wrds (H : AHeap) (lo : Nat) (x : AV) (ws : List (Nat × Wd)) : Prop := (x = .nilsl /\ ws = []) \/ ∃ b, x = .sl b 0 4 ws.length ws.length true /\ lo <= b /\ H.get b = some (.cells (flatW ws))
def CutR (H : AHeap) (t : Bs) (r : AV) (H1 : AHeap) : Prop := (∀ j x, H.get j = some x -> H1.get j = some x) /\
 (if 16384 < t.length then r = .tuple [.nilsl, .agg [.int .i64 2, .int .i64 t.length]] else match cutS t.length t with
 | .ok l => ∃ b, H.next <= b /\ r = .tuple [.sl b 0 4 (l.length + 1) (l.length + 1) true, .agg [.int .i64 0, .int .i64 0]] /\ H1.get b = some (.cells (flatW l ++ [.int .i64 0, .str [], .int .i64 0, .int .i64 t.length]))
 | .error e => r = .tuple [.nilsl, .agg [.int .i64 7, .int .i64 e]])
theorem CutR.okEnd {H : AHeap} {t : Bs} {ws : List (Nat × Wd)} {H2 : AHeap} {b : Nat} (hL : ¬ 16384 < t.length) (hc : cutS t.length t = .ok ws) (hb : H.next <= b)
  (hg : H2.get b = some (.cells (flatW ws ++ [.int .i64 0, .str [], .int .i64 0, .int .i64 t.length]))) (hk : ∀ j x, H.get j = some x -> H2.get j = some x) :
  CutR H t (.tuple [.sl b 0 4 (ws.length + 1) (ws.length + 1) true, .agg [.int .i64 0, .int .i64 0]]) H2 := by
 refine ⟨hk, ?_⟩
 rw [if_neg hL, hc]
 exact ⟨b, hb, rfl, hg⟩
theorem CutR.badEnd {H : AHeap} {t : Bs} {e : Nat} {H2 : AHeap} (hL : ¬ 16384 < t.length) (hc : cutS t.length t = .error e) (hk : ∀ j x, H.get j = some x -> H2.get j = some x) :
  CutR H t (.tuple [.nilsl, .agg [.int .i64 7, .int .i64 e]]) H2 := by
 refine ⟨hk, ?_⟩
 rw [if_neg hL, hc]
theorem cut_live (t : Bs) (hG : HasErr G) (H : AHeap) (hbig : t.length < 9223372036854775808) : Does Tryz.prog G 172 [.str t] H (CutR H t) := by
 refine Does.wf Tryz.call172 fun hw _ => ?_
 have old : ∀ j x, H.get j = some x -> j < H.next := fun j x hj => zaa hw hj
 refine zad Tryz.call172 Tryz.func172 rfl (by simp [Tryz.f172]) ?_
 by_cases hL : 16384 < t.length
 · have hL' : (16384 : Int) < t.length := by omega
   simp [hL']
   refine ⟨fun j x hj => ?_, by simp [hL]⟩
   have := old j x hj
   have h1 : j ≠ H.next := by omega
   simp [hj, h1]
 · have hL' : ¬ (16384 : Int) < t.length := by omega
   simp [hL']
   refine zab (between_does t (by omega) _) ?_
   rintro _ _ ⟨⟨n, rfl, hn, hbn⟩, rfl⟩
   simp
   refine zai (fun m T' H' => ∃ (ws : List (Nat × Wd)) (rest : Bs) (n : Nat), cutS t.length t = aheadW ws (cutS t.length rest) /\ n <= t.length /\ t.drop n = betw rest /\ m = t.length - n /\ ws.length <= n /\
    T' 0 = .str t /\ T' 3 = .ptr H.next 0 /\ T' 5 = .int .i64 n /\ Wrds H' (H.next + 1) (T' 4) ws /\ H'.get H.next = some (.cells [.int .i64 0, .int .i64 0]) /\ (∀ j x, H.get j = some x -> H'.get j = some x)) (t.length - n) ?_ ?_
   · refine ⟨[], t, n, ?_, hn, hbn, rfl, by simp, by simp, by simp, by simp, .inl ⟨by simp, rfl⟩, by simp, fun j x hj => ?_⟩
     · cases cutS t.length t <;> rfl
     · have := old j x hj
       have h1 : j ≠ H.next := by omega
       simp [hj, h1]
   rintro m T H1 ⟨ws, rest, n, hcut, hn, hbn, rfl, hws, h0, h3, h5, h4, hf, hkeep⟩ hw1 _
   have oldn : ∀ j x, H1.get j = some x -> j < H1.next := fun j x hj => zaa hw1 hj
   have hfn := oldn _ _ hf
   have hne : H.next ≠ H1.next := by omega
   have hne2 : H.next ≠ H1.next + 1 := by omega
   have hne3 : H.next ≠ H1.next + 1 + 1 := by omega
   have hgrow : ¬ (ws.length + 1 <= ws.length) := by omega
   have hws' : ws.length <= 16384 := by omega
   by_cases hend : n = t.length
   · subst hend
     have hnil : betw rest = [] := by rw [<- hbn]; simp
     have hc : cutS t.length t = .ok ws := by rw [hcut, cutS_end hnil]; simp [aheadW]
     have hfin : ∀ j x, H.get j = some x -> H1.get j = some x /\ j ≠ H.next /\ j ≠ H1.next /\ j ≠ H1.next + 1 := fun j x hj => by
      have := old j x hj
      have := oldn j x (hkeep j x hj)
      exact ⟨hkeep j x hj, by omega, by omega, by omega⟩
     rcases h4 with ⟨h4, rfl⟩ | ⟨b, h4, hlo, hb⟩
     · simp [h0, h3, h4, h5, hf, hne, hne2, hne3]
       refine CutR.okEnd hL hc (by omega) (by simp [flatW, Ne.symm hne2]) fun j x hj => ?_
       obtain ⟨k1, k2, k3, k4⟩ := hfin j x hj
       simp [k1, k2, k3, k4]
     · have hbn' := oldn _ _ hb
       have hb1 : b ≠ H1.next := by omega
       have hb2 : H.next ≠ b := by omega
       have hl1 : (ws.length + 1) * 40 <= 140737488355328 := by omega
       have hl2 : ws.length <= 4611686018427387903 := by omega
       simp [h0, h3, h4, h5, hf, hne, hne2, hne3, hb, hb1, hb2, hgrow, hl1, hl2]
       have htk : List.take (ws.length * 4) (flatW ws) = flatW ws := by rw [List.take_of_length_le]; simp
       rw [htk]
       refine CutR.okEnd hL hc (by omega) (by simp [Ne.symm hne2]) fun j x hj => ?_
       obtain ⟨k1, k2, k3, k4⟩ := hfin j x hj
       have := old j x hj
       have k5 : j ≠ b := by omega
       simp [k1, k2, k3, k4, k5]
   · have hlt : (n : Int) < t.length := by omega
     have hn' : (n : Int) <= t.length := by omega
     obtain ⟨c, q, hcq⟩ : ∃ c q, t.drop n = c :: q := by
      cases h : t.drop n with
      | nil => rw [List.drop_eq_nil_iff] at h; omega
      | cons c q => exact ⟨c, q, rfl⟩
     have hlen : (c :: q).length = t.length - n := by rw [<- hcq]; simp
     rw [hcq] at hbn
     have htk0 : List.take (t.length - n) (c :: q) = c :: q := by rw [List.take_of_length_le]; omega
     simp [h0, h3, h4, h5, hf, hlt, hn, hn', hcq, htk0]
     refine zab (word_does c q (by omega) hG _) ?_
     rintro r H2 ⟨hr, e⟩
     subst e
     have hkeep2 : ∀ j x, H.get j = some x -> H2.get j = some x /\ j ≠ H.next /\ j ≠ H2.next /\ j ≠ H2.next + 1 /\ j ≠ H2.next + 1 + 1 := fun j x hj => by
      have := old j x hj
      have := oldn j x (hkeep j x hj)
      exact ⟨hkeep j x hj, by omega, by omega, by omega, by omega⟩
     unfold WordIs at hr
     cases hwd : wordS (c :: q) with
     | none =>
       rw [hwd] at hr
       simp only at hr
       obtain ⟨k, tx, nn, rfl⟩ := hr
       have hc : cutS t.length t = .error n := by
        rw [hcut, cutS_bad hbn.symm hwd, hlen]
        simp only [aheadW]
        congr 1
        omega
       simp [h0, h3, h4, h5, hf, hne]
       refine CutR.badEnd hL hc fun j x hj => ?_
       obtain ⟨k1, k2, k3, k4, k5⟩ := hkeep2 j x hj
       simp [k1, k2, k3]
     | some w =>
       rw [hwd] at hr
       simp only at hr
       subst hr
       obtain ⟨hpre, htne⟩ := wordS_text hwd
       have hwl : w.text.length <= (c :: q).length := hpre.length_le
       have hwl0 : w.text.length ≠ 0 := by simpa using htne
       rw [hlen] at hwl
       have hw1 : IntKind.i64.wrap ((n : Int) + w.text.length) = ((n + w.text.length : Nat) : Int) := by rw [IntWalk.i64_in _ (by omega)]; omega
       have hn2 : ((n + w.text.length : Nat) : Int) <= t.length := by omega
       have hn3 : n + w.text.length <= t.length := by omega
       have hrest : t.drop (n + w.text.length) = (c :: q).drop w.text.length := by rw [<- List.drop_drop, hcq]
       obtain ⟨n2, hn2'⟩ : ∃ n2, n2 = n + w.text.length := ⟨_, rfl⟩
       rw [<- hn2'] at hw1 hn2 hn3 hrest
       have hcut2 : cutS t.length t = aheadW (ws ++ [(n, w)]) (cutS t.length (t.drop n2)) := by
        rw [hcut, cutS_word hbn.symm hwd, hrest, hlen]
        have e : t.length - (t.length - n) = n := by omega
        rw [e]
        cases cutS t.length ((c :: q).drop w.text.length) <;> simp [aheadW]
       rcases h4 with ⟨h4, rfl⟩ | ⟨b, h4, hlo, hb⟩
       · simp [h0, h3, h4, h5, hf, hne, hne2, hne3, wdCells, hw1, hn2, hn3]
         refine zab (between_does (t.drop n2) (by simp; omega) _) ?_
         rintro _ _ ⟨⟨k, rfl, hk, hk2⟩, rfl⟩
         simp only [List.length_drop] at hk
         have hw2 : IntKind.i64.wrap ((n2 : Int) + k) = ((n2 + k : Nat) : Int) := by rw [IntWalk.i64_in _ (by omega)]; omega
         simp [h0, h3, h4, h5, hf, hne, hne2, hne3, hw2]
         refine ⟨t.length - (n2 + k), by omega, [(n, w)], t.drop n2, by simpa using hcut2, n2 + k, by omega, by rw [<- List.drop_drop]; exact hk2, rfl, by simp; omega, by omega, .inr ⟨H2.next + 1 + 1, rfl, by omega, by simp [flatW, wdCells]⟩, fun j x hj => ?_⟩
         obtain ⟨k1, k2, k3, k4, k5⟩ := hkeep2 j x hj
         simp [k1, k3, k4, k5]
       · have hbn' := oldn _ _ hb
         have hb1 : b ≠ H2.next := by omega
         have hb2 : H.next ≠ b := by omega
         have hb3 : b ≠ H2.next + 1 := by omega
         have hl1 : (ws.length + 1) * 40 <= 140737488355328 := by omega
         have hl2 : ws.length <= 4611686018427387903 := by omega
         have hb4 : H2.next ≠ b := Ne.symm hb1
         have hb5 : H2.next ≠ H2.next + 1 + 1 := by omega
         have htk : List.take (ws.length * 4) (flatW ws) = flatW ws := by rw [List.take_of_length_le]; simp
         simp [h0, h3, h4, h5, hf, hne, hne2, hne3, wdCells, hw1, hn2, hn3, hb, hb1, hb2, hb3, hb4, hb5, hgrow, hl1, hl2, htk]
         refine zab (between_does (t.drop n2) (by simp; omega) _) ?_
         rintro _ _ ⟨⟨k, rfl, hk, hk2⟩, rfl⟩
         simp only [List.length_drop] at hk
         have hw2 : IntKind.i64.wrap ((n2 : Int) + k) = ((n2 + k : Nat) : Int) := by rw [IntWalk.i64_in _ (by omega)]; omega
         simp [h0, h3, h4, h5, hf, hne, hne2, hne3, hw2]
         refine ⟨t.length - (n2 + k), by omega, ws ++ [(n, w)], t.drop n2, hcut2, n2 + k, by omega, by rw [<- List.drop_drop]; exact hk2, rfl, by simp; omega, by omega, .inr ⟨H2.next + 1 + 1, by simp, by omega, by simp [flatW_append, flatW, wdCells]⟩, hb2, fun j x hj => ?_⟩
         obtain ⟨k1, k2, k3, k4, k5⟩ := hkeep2 j x hj
         have := old j x hj
         have k6 : j ≠ b := by omega
         simp [k1, k3, k4, k5, k6]
theorem flatW_lt (n : Nat) : ∀ l : List (Nat × Wd), AV.allLt n (flatW l) = true
 | [] => rfl
 | (i, w) :: l => by simp [flatW, wdCells, AV.allLt, AV.idLt, flatW_lt n l]
theorem allLt_app (n : Nat) (a b : List AV) : AV.allLt n (a ++ b) = (AV.allLt n a && AV.allLt n b) := AV.allLt_append a b
theorem cut_does (t : Bs) (hG : HasErr G) (H : AHeap) (hbig : t.length < 9223372036854775808) : Does Tryz.prog G 172 [.str t] H fun r H' => r = cutAns t /\ H' = H := by
 by_cases hL : 16384 < t.length
 · refine Does.forgot (cut_live t hG H hbig) ?_
   rintro hw ha r H1 ⟨hk, hr⟩
   rw [if_pos hL] at hr
   subst hr
   exact ⟨hk, rfl, by simp [cutAns, hL], rfl⟩
 · cases hc : cutS t.length t with
   | error e =>
     refine Does.forgot (cut_live t hG H hbig) ?_
     rintro hw ha r H1 ⟨hk, hr⟩
     rw [if_neg hL, hc] at hr
     simp only at hr
     subst hr
     exact ⟨hk, rfl, by simp [cutAns, hL, hc], rfl⟩
   | ok l =>
     refine Does.frozen (cut_live t hG H hbig) ?_
     rintro hw ha r H1 ⟨hk, hr⟩
     rw [if_neg hL, hc] at hr
     obtain ⟨b, hb, rfl, hg⟩ := hr
     refine ⟨b, _, hb, hg, hk, ?_, ?_, rfl⟩
     · simp [AV.frz, AV.frzs, AV.idLt, AV.allLt]
       rw [List.take_of_length_le (by simp; omega)]
       simp [allLt_app, flatW_lt, AV.allLt, AV.idLt]
     · simp [AV.frz, AV.frzs, cutAns, hL, hc]
       rw [List.take_of_length_le (by simp; omega)]
def isErrCell : Option AV -> Bool
 | some (.vptr [.iface _ _]) => true
 | _ => false
theorem errCell : isErrCell (Gof tab 2) = true := by kernel_rfl
theorem hasErr : HasErr (Gof tab) := by
 have h := errCell
 unfold isErrCell at h
 split at h
 · rename_i t v he; exact ⟨t, v, he⟩
 · simp at h
theorem flatW_cellsW (l : List (Nat × Wd)) : flatW l = cellsW l := by
 induction l with
 | nil => rfl
 | cons x l ih =>
   obtain ⟨i, w⟩ := x
   simp only [flatW, cellsW, ih, wdCells]
theorem cutAns_eq (t : Bs) : cutAns t = cutA t := by
 unfold cutAns cutA
 split
 · rfl
 · cases cutS t.length t with
   | ok l => simp only [flatW_cellsW]
   | error e => rfl
theorem cutOv_good (args : List AV) (H : FH) (k : AV -> FH -> Bool) (h : cutOv args H k = true) :
  ∃ v H', Does Tryz.prog (Gof tab) 172 args H.abs (fun r h => r = v /\ h = FH.abs H') /\ H.next <= H'.next /\ k v H' = true := by
 obtain ⟨s, rfl, hl, hk⟩ := cutOv_inv h
 exact ⟨_, H, (cut_does s hasErr H.abs (by omega)).mono fun r h hr => ⟨hr.1.trans (cutAns_eq s), hr.2⟩, Nat.le_refl _, hk⟩
noncomputable def knownC : Ov := ovAdd 172 cutOv known
theorem knownC_good : zaW Tryz.prog (Gof tab) knownC := ovAdd_good cutOv_good (known_good _)
end Go.Proofs.YtekbjlihciedjaaGreatDoor
namespace Go.Proofs.YtekbjlihciedjaaGreatDoor
open Go Go.Abs Go.RowKit
noncomputable def knownW : Ov := knownC
theorem knownW_good : zaW Tryz.prog (Gof tab) knownW := knownC_good
noncomputable def knownP : Ov := knownW
theorem za1 : zaW Tryz.prog (Gof tab) knownP := knownW_good
end Go.Proofs.YtekbjlihciedjaaGreatDoor
namespace Go.Proofs.YtekbjlihciedjaaGreatDoor
open Go Go.Abs Go.Lex
theorem gof_low5 : ∀ (T : List (Nat × List AV)), (T.all fun p => (AV.vptr p.2).idLt 0) = true -> ∀ g a, Gof T g = some a -> a.idLt 0 = true
 | [], _, g, a, ha => by simp [Gof] at ha
 | (h, l) :: r, hT, g, a, ha => by
   simp only [List.all_cons, Bool.and_eq_true] at hT
   simp only [Gof] at ha
   split at ha
   · cases ha; exact hT.1
   · exact gof_low5 r hT.2 g a ha
theorem mixed5 : Tryz.prog.follows .mixedOrders = true := by kernel_rfl
theorem plain5 : plainFn Tryz.prog = true := by kernel_rfl
theorem zaF : ∀ g a, Gof tab g = some a -> a.idLt 0 = true := gof_low5 tab (by kernel_rfl)
end Go.Proofs.YtekbjlihciedjaaGreatDoor
