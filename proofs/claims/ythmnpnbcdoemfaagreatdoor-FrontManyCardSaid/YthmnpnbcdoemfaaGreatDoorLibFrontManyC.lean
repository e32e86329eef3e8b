/-
  Own library of this claim, part 3: texts one behind the other (FxJ, FxI, FxK, LxS, KlD, KlE, KlF, KlG, KlH, KlI, Bld, LxL, SyS, FrC, AbsXs, LxF, LxB, LxM, SyC, SyT, SyU, SyV, SyW, SyX, SyZ, SyQ, SyNo, SyWf, SyWg, SyTx, SyWt, SyWn, SyTe, SyFm, SyFn, SyFo0, SyFo1, SyFo2, SyFo3, SyFo, SyFc0, SyFc1, SyFc2, SyFc3, SyFc, SyFp, KlA, KlC, Base, KlB, LxK, FrA, FrB, FrE, FrG).
-/
import Derived.Lib.Bytealg
import Derived.Laws.Externs
import Derived.Below
import Derived.Laws.Entries
import Derived.Test.YthmnpnbcdoemfaaGreatDoorRows
import Derived.Lib.Walk
import Derived.Lib.UnsafeStr
import Derived.Lib.MakeNoZero
import Derived.Lib.Builder
import Derived.Laws.IdiomCopy
import Derived.Lib.BufferWrite
import Derived.Lib.Hide
import Derived.Laws.MakeOwn
import Derived.OwnWalk
import Derived.WalkKit
import Derived.KernelRfl
import Derived.ChangeArms
import Derived.DataReads
import Derived.OpenShut
import Derived.LaidLaws
import Derived.FnData
import GoSem.ClaimJoined
import Derived.ProofKit
import Derived.Test.YthmnpnbcdoemfaaGreatDoorLibFrontManyB

namespace Go.Abs
open Go
structure Snp where
  w : Bool
  T : ET
  H : FH
  v : AV
noncomputable def runM (ω : Om) (P : Program) (G : Nat → Option AV) (l : List FOper) : Nat → List Snp → ET → FH → (List Snp → ET → FH → Bool) → Bool :=
  List.rec (motive := fun _ => Nat → List Snp → ET → FH → (List Snp → ET → FH → Bool) → Bool) (fun _ s T H k => k s T H)
    (fun fo _ ih base s T H k => FOper.rec (motive := fun _ => Bool) (fun g d e f o =>
      guardK g T (f.run ω P G o base T H fun v H' => v.force fun v => putD d v T fun T' => ih (ifK e H'.next base) (⟨true, T, H, v⟩ :: s) T' H' k) (putD d undefA T fun T' => ih base (⟨false, T, H, undefA⟩ :: s) T' H k)) fo) l
structure SRel (cop : Oper → FOp) (ops : Array Oper) (o : Oper) (x : Full) (y : Snp) : Prop where
  T : y.T.fn = x.T
  H : y.H.abs = x.H
  v : y.v = x.v
  e : x.k.isEff = (y.w && (cop o).isE)
  r : x.k.isRead = true → y.w = true
  w : y.w = true → awanted ops x.T o = true
inductive SRels (cop : Oper → FOp) (ops : Array Oper) : List Oper → List Full → List Snp → Prop
  | nil : SRels cop ops [] [] []
  | cons {o : Oper} {x : Full} {y : Snp} {l : List Oper} {u : List Full} {s : List Snp} (h : SRel cop ops o x y) (t : SRels cop ops l u s) : SRels cop ops (o :: l) (x :: u) (y :: s)
section
variable {ω : Om} {P : Program} {G : Nat → Option AV} {N : Nat} {ops : Array Oper} {cop : Oper → FOp}
theorem SRels.length {l : List Oper} {u : List Full} {s : List Snp} (h : SRels cop ops l u s) : u.length = l.length ∧ s.length = l.length := by
  induction h with
  | nil => exact ⟨rfl, rfl⟩
  | cons _ _ ih => simp [ih.1, ih.2]
theorem SRels.at {l : List Oper} {u : List Full} {s : List Snp} (h : SRels cop ops l u s) : ∀ {i : Nat} {o : Oper} {x : Full}, l[i]? = some o → u[i]? = some x → ∃ y, s[i]? = some y ∧ SRel cop ops o x y := by
  induction h with
  | nil => intro i o x h; simp at h
  | cons h _ ih =>
    intro i o x ho hx
    cases i with
    | zero => simp at ho hx; subst ho; subst hx; exact ⟨_, rfl, h⟩
    | succ i => simpa using ih (by simpa using ho) (by simpa using hx)
theorem runM_inv (hω : CopOk P G ω ops cop) (hN : N ≤ 1024) : ∀ (l : List Oper) (base : Nat) (acc : List Snp) (T : ET) (H : FH) (k : List Snp → ET → FH → Bool), dstOk N l = true → runM ω P G (l.map (fcoper cop ops true)) base acc T H k = true →
    ∃ u s T' H', Tr P G ops l T.fn H.abs u T'.fn (FH.abs H') ∧ H.next ≤ H'.next ∧ BOk P G cop true H'.abs l u base ∧ SRels cop ops l u s ∧ k (s.reverse ++ acc) T' H' = true
  | [], base, acc, T, H, k, _, h => ⟨[], [], T, H, .nil, Nat.le_refl _, trivial, .nil, h⟩
  | o :: l, base, acc, T, H, k, hd, h => by
    have h : guardK (fcg ops o) T ((cop o).run ω P G o base T H fun v H' => v.force fun v => putD (fcd o) v T fun T' => runM ω P G (l.map (fcoper cop ops true)) (ifK (true && (cop o).isE) H'.next base) (⟨true, T, H, v⟩ :: acc) T' H' k)
        (putD (fcd o) undefA T fun T' => runM ω P G (l.map (fcoper cop ops true)) base (⟨false, T, H, undefA⟩ :: acc) T' H k) = true := h
    have hd0 : ∀ j, o.dst = some j → j < N := fun j hj => by
      unfold dstOk at hd
      rw [List.all_cons, Bool.and_eq_true] at hd
      have := hd.1
      rw [hj] at this
      simpa using this
    have hdr : dstOk N l = true := by
      unfold dstOk at hd ⊢
      rw [List.all_cons, Bool.and_eq_true] at hd
      exact hd.2
    rcases guardK_inv h with ⟨hw, h⟩ | ⟨hw, h⟩
    · obtain ⟨v, kd, H1, hs, hn, he, ha, hr0, hr, h⟩ := hω _ _ _ _ _ hw h
      have h := (AV.force_eq v _).symm.trans h
      obtain ⟨T1, hT1, h⟩ := putD_eq hN hd0 h
      obtain ⟨u, s, T', H', htr, hn', hb, hsr, hk⟩ := runM_inv hω hN l _ _ T1 H1 k hdr h
      refine ⟨⟨T.fn, H.abs, v, kd⟩ :: u, ⟨true, T, H, v⟩ :: s, T', H', .cons hs hn (by rw [← hT1]; exact htr), by omega, ⟨fun h => he ▸ h, ha, fun h => ⟨hr0 ▸ h, hr h⟩, ?_⟩, .cons ⟨rfl, rfl, rfl, by rw [he, Bool.true_and], fun _ => rfl, fun _ => hw⟩ hsr, by simpa using hk⟩
      have h0 : hAt u H'.abs 0 = H1.abs := (tr_spec htr).1
      rw [h0]
      rw [← he] at hb
      show BOk P G cop true H'.abs l u (if true = true ∧ kd.isEff = true then H1.next else base)
      cases hk : kd.isEff <;> rw [hk] at hb <;> exact hb
    · obtain ⟨T1, hT1, h⟩ := putD_eq hN hd0 h
      obtain ⟨u, s, T', H', htr, hn', hb, hsr, hk⟩ := runM_inv hω hN l _ _ T1 H k hdr h
      refine ⟨⟨T.fn, H.abs, undefA, .idle⟩ :: u, ⟨false, T, H, undefA⟩ :: s, T', H', .cons ⟨.inl ⟨hw, rfl⟩, rfl⟩ (Nat.le_refl _) (by rw [← hT1]; exact htr), hn', ⟨fun h => by simp [Kind.isEff] at h, fun h => by simp [Kind.isAlloc] at h, fun h => by simp [Kind.isRead] at h, ?_⟩,
        .cons ⟨rfl, rfl, rfl, rfl, fun h => by simp [Kind.isRead] at h, fun h => by simp at h⟩ hsr, by simpa using hk⟩
      rw [if_neg (by simp [Kind.isEff])]
      exact hb
def effOk (fs : List Flags) (as_ : List Nat) : Bool :=
  fs.zipIdx.all fun (y, j) => fs.zipIdx.all fun (x, i) => !decide (i < j) || !(y.e && (x.e || x.a)) || (as_.getD j 0).testBit i
theorem effOk_spec {fs : List Flags} (h : effOk fs (ancs ops.toList) = true) (hfs : fs = ops.toList.map fun o => flagsOf (cop o)) : EffOrd cop ops := by
  intro i j o q hij ho hq hE hc
  subst hfs
  unfold effOk at h
  rw [List.all_eq_true] at h
  have := h (_, j) (mem_zipIdx (flags_at hq))
  simp only [List.all_eq_true] at this
  have := this (_, i) (mem_zipIdx (flags_at ho))
  simp only [hij, decide_true, Bool.not_true, Bool.false_or] at this
  have e : ((flagsOf (cop q)).e && ((flagsOf (cop o)).e || (flagsOf (cop o)).a)) = true := by rcases hc with hc | hc <;> simp [flagsOf, hE, hc]
  rw [e] at this
  exact ancs_sound this
def effPl (fs : List Flags) : List Nat := (fs.zipIdx.filter fun (x, _) => x.e).map (·.2)
def softAt (fs : List Flags) (as_ : List Nat) (r : Nat) : Bool := (effPl fs).all fun e => (!decide (e < r) || (as_.getD r 0).testBit e) && (!decide (r < e) || (as_.getD e 0).testBit r)
def hardPl (fs : List Flags) (as_ : List Nat) : List Nat := ((fs.zipIdx.filter fun (x, _) => x.r).map (·.2)).filter fun r => !softAt fs as_ r
def heapS (s : List Snp) (H : FH) (q : Nat) : FH := match s[q]? with
  | some x => x.H
  | none => H
noncomputable def checkR (ω : Om) (P : Program) (G : Nat → Option AV) (cop : Oper → FOp) (ops : Array Oper) (es as_ : List Nat) (s : List Snp) (H : FH) (r : Nat) : Bool :=
  match ops[r]?, s[r]? with
  | some o, some x => !x.w || (0 :: es.map (· + 1)).all fun q =>
      (es.any fun e => decide (e < q) && ((match s[e]? with | some y => y.w | none => false) && (as_.getD e 0).testBit r)) || (es.any fun e => decide (q ≤ e) && ((match s[e]? with | some y => y.w | none => false) && (as_.getD r 0).testBit e)) ||
      (cop o).run ω P G o 1048576 x.T (heapS s H q) fun v _ => AV.beq v x.v
  | _, _ => false
theorem effPl_mem {fs : List Flags} {e : Nat} {x : Flags} (hx : fs[e]? = some x) (he : x.e = true) : e ∈ effPl fs := by
  unfold effPl
  rw [List.mem_map]
  exact ⟨(x, e), by rw [List.mem_filter]; exact ⟨mem_zipIdx hx, he⟩, rfl⟩
theorem effPl_of {fs : List Flags} {e : Nat} (h : e ∈ effPl fs) : ∃ x, fs[e]? = some x ∧ x.e = true := by
  unfold effPl at h
  rw [List.mem_map] at h
  obtain ⟨⟨x, i⟩, h1, rfl⟩ := h
  rw [List.mem_filter] at h1
  exact ⟨x, List.mem_zipIdx_iff_getElem?.1 h1.1, h1.2⟩
theorem checked_draw (hm : P.follows .mixedOrders = true) (hω : CopOk P G ω ops cop) (hok : regionOk N ops = true) (fs : List Flags) (hfs : fs = ops.toList.map fun o => flagsOf (cop o)) (heff : effOk fs (ancs ops.toList) = true)
    {T T' : Nat → AV} {H : AHeap} {H' : FH} {u : List Full} {s : List Snp} {Q : Exit → (Nat → AV) → AHeap → Prop} {id : Nat} (htr : Tr P G ops ops.toList T H u T' H'.abs) (hb : BOk P G cop true H'.abs ops.toList u H.next) (hsr : SRels cop ops ops.toList u s)
    (hck : (hardPl fs (ancs ops.toList)).all (checkR ω P G cop ops (effPl fs) (ancs ops.toList) s H') = true) (hQ : Q .normal T' H'.abs) : AW P G N (.region id ops true) Q T H := by
  refine gen_draw hm hok (effOk_spec heff hfs) (fun r x o hx ho hr => ?_) htr hb hQ
  have hol : ops.toList[r]? = some o := by simpa using ho
  have hR := ((BOk.at ops.toList u H.next r x o hb hx hol).2.2 hr).1
  have hfr : fs[r]? = some (flagsOf (cop o)) := by rw [hfs]; exact flags_at ho
  cases hsoft : softAt fs (ancs ops.toList) r with
  | true =>
    refine .inl fun e q hq hE => ?_
    unfold softAt at hsoft
    rw [List.all_eq_true] at hsoft
    have hfe : fs[e]? = some (flagsOf (cop q)) := by rw [hfs]; exact flags_at hq
    have := hsoft e (effPl_mem hfe hE)
    simp only [Bool.and_eq_true, Bool.or_eq_true, Bool.not_eq_true', decide_eq_false_iff_not] at this
    exact ⟨fun he => ancs_sound (this.1.resolve_left fun h => h he), fun he => ancs_sound (this.2.resolve_left fun h => h he)⟩
  | false =>
    refine .inr fun q hq hq0 hlo hhi => ?_
    have hmem : r ∈ hardPl fs (ancs ops.toList) := by
      unfold hardPl
      rw [List.mem_filter, List.mem_map]
      exact ⟨⟨(flagsOf (cop o), r), by rw [List.mem_filter]; exact ⟨mem_zipIdx hfr, hR⟩, rfl⟩, by simp [hsoft]⟩
    rw [List.all_eq_true] at hck
    have hc := hck r hmem
    obtain ⟨y, hy, hs⟩ := hsr.at hol hx
    unfold checkR at hc
    simp only [ho, hy] at hc
    have hw := hs.r hr
    rw [hw] at hc
    simp only [Bool.not_true, Bool.false_or] at hc
    rw [List.all_eq_true] at hc
    have eff_of : ∀ e y', u[e]? = some y' → y'.k.isEff = true → e ∈ effPl fs ∧ ∃ z, s[e]? = some z ∧ z.w = true := fun e y' hy' hye => by
      have hlt : e < ops.size := by
        have := hsr.length.1
        rcases Nat.lt_or_ge e u.length with g | g
        · simp at this; omega
        · rw [List.getElem?_eq_none g] at hy'; simp at hy'
      obtain ⟨o2, ho2⟩ := get_of hlt
      obtain ⟨z, hz, hzs⟩ := hsr.at (by simpa using ho2) hy'
      have hE := (BOk.at ops.toList u H.next e y' o2 hb hy' (by simpa using ho2)).1 hye
      refine ⟨effPl_mem (x := flagsOf (cop o2)) (by rw [hfs]; exact flags_at ho2) hE, z, hz, ?_⟩
      have := hzs.e
      rw [hye] at this
      cases hzw : z.w
      · rw [hzw] at this; simp at this
      · rfl
    have hqm : q ∈ (0 :: (effPl fs).map (· + 1)) := by
      rcases hq0 with rfl | ⟨e, y', rfl, hy', hye⟩
      · simp
      · exact List.mem_cons_of_mem _ (List.mem_map.2 ⟨e, (eff_of e y' hy' hye).1, rfl⟩)
    have hcq := hc q hqm
    have isEff_of : ∀ e, e ∈ effPl fs → (match s[e]? with | some y => y.w | none => false) = true → ∃ y', u[e]? = some y' ∧ y'.k.isEff = true := fun e he hwe => by
      obtain ⟨f, hf, hfe⟩ := effPl_of he
      cases hse : s[e]? with
      | none => rw [hse] at hwe; simp at hwe
      | some z =>
        rw [hse] at hwe
        have hlt : e < ops.size := by
          have := hsr.length.2
          rcases Nat.lt_or_ge e s.length with g | g
          · simp at this; omega
          · rw [List.getElem?_eq_none g] at hse; simp at hse
        obtain ⟨o2, ho2⟩ := get_of hlt
        have hul : e < u.length := by have := hsr.length.1; simp at this; omega
        obtain ⟨z', hz', hzs⟩ := hsr.at (i := e) (by simpa using ho2) (List.getElem?_eq_getElem hul)
        rw [hse] at hz'; simp only [Option.some.injEq] at hz'; subst hz'
        refine ⟨_, List.getElem?_eq_getElem hul, ?_⟩
        rw [hzs.e]
        have : (cop o2).isE = true := by
          rw [hfs, flags_at ho2] at hf
          simp only [Option.some.injEq] at hf
          rw [← hf] at hfe; exact hfe
        simp only at hwe
        rw [hwe, this]; rfl
    simp only [Bool.or_eq_true, List.any_eq_true, Bool.and_eq_true, decide_eq_true_eq] at hcq
    rcases hcq with (⟨e, he, h5, h6, h7⟩ | ⟨e, he, h5, h6, h7⟩) | h5
    · obtain ⟨y', hy', hye⟩ := isEff_of e he h6
      exact absurd (ancs_sound h7) (hlo e y' h5 hy' hye)
    · obtain ⟨y', hy', hye⟩ := isEff_of e he h6
      exact absurd (ancs_sound h7) (hhi e y' h5 hy' hye)
    · have hwn : awanted ops y.T.fn o = true := by rw [hs.T]; exact hs.w hw
      obtain ⟨v, kd, H1, _, _, _, _, hr0, hr1, hk⟩ := hω o y.T (heapS s H' q) _ _ hwn h5
      have hkr : kd.isRead = true := by rw [hr0]; exact hR
      have := hr1 hkr (heapS s H' q).abs.get (fun _ _ => rfl)
      have hv : v = y.v := AV.beq_eq _ _ hk
      have hH : (heapS s H' q).abs = hAt u H'.abs q := by
        unfold heapS hAt
        rcases Nat.lt_or_ge q ops.size with g | g
        · obtain ⟨o2, ho2⟩ := get_of g
          have hul : q < u.length := by have := hsr.length.1; simp at this; omega
          obtain ⟨z, hz, hzs⟩ := hsr.at (i := q) (by simpa using ho2) (List.getElem?_eq_getElem hul)
          rw [hz, List.getElem?_eq_getElem hul]
          exact hzs.H
        · rw [List.getElem?_eq_none (by have := hsr.length.2; simp at this; omega), List.getElem?_eq_none (by have := hsr.length.1; simp at this; omega)]
      rw [← hH, ← hs.T, ← hs.v, ← hv]
      exact this
end
end Go.Abs

namespace Go.Abs
open Go
abbrev KC := ET → FH → Bool
def regOk (P : Program) (G : Nat → Option AV) (N : Nat) (ops : Array Oper) : Bool := regionOk N ops && statOk (ops.toList.map fun o => flagsOf (fcop P G o)) (ancs ops.toList)
def regOkZ (P : Program) (G : Nat → Option AV) (N : Nat) (ops : Array Oper) : Bool := regionOk N ops && effOk (ops.toList.map fun o => flagsOf (fcopZ P G o)) (ancs ops.toList)
def regOkM (P : Program) (G : Nat → Option AV) (N : Nat) (ops : Array Oper) : Bool := regionOk N ops && effOk (ops.toList.map fun o => flagsOf (fcop P G o)) (ancs ops.toList)
noncomputable def fexec (ω : Om) (P : Program) (G : Nat → Option AV) (N n : Nat) (c : Code) : KC → KC → (Nat → KC) → ET → FH → Bool :=
  Code.rec (motive := fun _ => KC → KC → (Nat → KC) → ET → FH → Bool)
    (fun kn _ _ T H => kn T H)
    (fun _ ops d kn _ _ T H => ifK d
      (ifK (regOk P G N ops) (runL ω P G (ops.toList.map (fcoper (fcop P G) ops true)) H.next T H kn)
        (ifK (regOkM P G N ops) (runM ω P G (ops.toList.map (fcoper (fcop P G) ops true)) H.next [] T H fun s T H' =>
          ifK ((hardPl (ops.toList.map fun o => flagsOf (fcop P G o)) (ancs ops.toList)).all (checkR ω P G (fcop P G) ops (effPl (ops.toList.map fun o => flagsOf (fcop P G o))) (ancs ops.toList) s.reverse H')) (kn T H') false)
          (ifK (regOkZ P G N ops) (runM ω P G (ops.toList.map (fcoper (fcopZ P G) ops true)) H.next [] T H fun s T H' =>
          ifK ((hardPl (ops.toList.map fun o => flagsOf (fcopZ P G o)) (ancs ops.toList)).all (checkR ω P G (fcopZ P G) ops (effPl (ops.toList.map fun o => flagsOf (fcopZ P G o))) (ancs ops.toList) s.reverse H')) (kn T H') false) false)))
      (ifK (dstOk N ops.toList) (runL ω P G (ops.toList.map (fcoper (fcop P G) ops false)) 1048576 T H kn) false))
    (fun _ _ iha ihb kn kr ke T H => iha (fun T H => ihb kn kr ke T H) kr ke T H)
    (fun x _ _ iha ihb kn kr ke T H => optK (fx G x) fun y => (y.get T).onBool false fun b => ifK b (iha kn kr ke T H) (ihb kn kr ke T H))
    (fun id _ ih kn kr ke T H => ih kn kr (fun i => ifK (Nat.beq i id) kn (ke i)) T H)
    (fun _ ih _ kr ke T H => Nat.rec (motive := fun _ => ET → FH → Bool) (fun _ _ => false) (fun _ lp T H => ih lp kr ke T H) n T H)
    (fun _ _ _ _ _ _ _ _ _ _ _ => false)
    (fun id _ _ ke T H => ke id T H)
    (fun _ _ _ _ _ _ _ => false)
    (fun _ _ _ _ _ _ => false)
    (fun _ _ _ _ _ _ => false)
    (fun _ kr _ T H => kr T H)
    (fun _ _ _ _ _ _ => false) c
def contOf (kn kr : KC) (ke : Nat → KC) : Exit → KC
  | .normal => kn
  | .ret => kr
  | .exit i => ke i
  | _ => fun _ _ => false
noncomputable def resK (P : Program) (G : Nat → Option AV) (rs : List ResultVar) (T : ET) (H : FH) : (List AV → Bool) → Bool :=
  List.rec (motive := fun _ => (List AV → Bool) → Bool) (fun k => k [])
    (fun r _ ih k => ResultVar.rec (motive := fun _ => Bool)
      (fun t => optK (fx G (.tmp t)) fun x => ih fun vs => k (x.get T :: vs))
      (fun a t => optK (fx G (.tmp a)) fun x => optK (aagg P t) fun g => optK (asize P t) fun n => loadK 1048576 g n (x.get T) H fun v _ => v.force fun v => ih fun vs => k (v :: vs)) r) rs
noncomputable def oneK (vs : List AV) (k : AV → Bool) : Bool := List.rec (motive := fun _ => Bool) (k (.tuple [])) (fun a r _ => List.rec (motive := fun _ => Bool) (k a) (fun _ _ _ => k (.tuple vs)) r) vs
noncomputable def initK (vs : List AV) : Nat → ET → (ET → Bool) → Bool :=
  List.rec (motive := fun _ => Nat → ET → (ET → Bool) → Bool) (fun _ T k => k T) (fun v _ ih i T k => ET.put (P32.of (Nat.div i 32)) (P32.of (Nat.mod i 32)) v T fun T => natK (Nat.add i 1) fun i => ih i T k) vs
abbrev Ov := FuncId → Option (List AV → FH → (AV → FH → Bool) → Bool)
noncomputable def fcall (ov : Ov) (P : Program) (G : Nat → Option AV) (fuel n : Nat) : Om :=
  Nat.rec (motive := fun _ => Om) (fun _ _ _ _ => false) (fun _ ih f args H k =>
    Option.rec (motive := fun _ => Bool)
      (optK (P.funcs[f]?) fun fn => optK fn.body fun c => ifK (Nat.ble (lenN args) fn.ntmps) (ifK (Nat.ble fn.ntmps 1024)
        (initK args 0 ET.none fun T =>
          fexec ih P G fn.ntmps fuel c (fun T H => resK P G fn.results.toList T H fun vs => oneK vs fun v => k v H) (fun T H => resK P G fn.results.toList T H fun vs => oneK vs fun v => k v H) (fun _ _ _ => false) T H) false) false)
      (fun g => g args H k) (ov f)) n
section
variable {ω : Om} {P : Program} {G : Nat → Option AV} {N : Nat}
theorem fexec_sound (hm : P.follows .mixedOrders = true) (hω : GoodK P G ω) (hN : N ≤ 1024) (n : Nat) : ∀ (c : Code) (kn kr : KC) (ke : Nat → KC) (T : ET) (H : FH), fexec ω P G N n c kn kr ke T H = true →
    ∃ e T' H', (∀ Q : Exit → (Nat → AV) → AHeap → Prop, Q e (ET.fn T') (FH.abs H') → AW P G N c Q T.fn H.abs) ∧ H.next ≤ H'.next ∧ contOf kn kr ke e T' H' = true := by
  intro c
  induction c with
  | skip => exact fun kn kr ke T H h => ⟨.normal, T, H, fun Q hQ => aw_skip hQ, Nat.le_refl _, h⟩
  | region id ops d =>
    intro kn kr ke T H h
    cases d with
    | true =>
      have h : ifK (regOk P G N ops) (runL ω P G (ops.toList.map (fcoper (fcop P G) ops true)) H.next T H kn)
        (ifK (regOkM P G N ops) (runM ω P G (ops.toList.map (fcoper (fcop P G) ops true)) H.next [] T H fun s T H' =>
          ifK ((hardPl (ops.toList.map fun o => flagsOf (fcop P G o)) (ancs ops.toList)).all (checkR ω P G (fcop P G) ops (effPl (ops.toList.map fun o => flagsOf (fcop P G o))) (ancs ops.toList) s.reverse H')) (kn T H') false)
          (ifK (regOkZ P G N ops) (runM ω P G (ops.toList.map (fcoper (fcopZ P G) ops true)) H.next [] T H fun s T H' =>
          ifK ((hardPl (ops.toList.map fun o => flagsOf (fcopZ P G o)) (ancs ops.toList)).all (checkR ω P G (fcopZ P G) ops (effPl (ops.toList.map fun o => flagsOf (fcopZ P G o))) (ancs ops.toList) s.reverse H')) (kn T H') false) false)) = true := h
      cases hrg : regOk P G N ops with
      | true =>
        rw [hrg, ifK_true] at h
        simp only [regOk, Bool.and_eq_true] at hrg
        have hd : dstOk N ops.toList = true := by
          have := hrg.1
          simp only [regionOk, Bool.and_eq_true] at this
          exact this.2
        obtain ⟨u, T', H', htr, hn, hb, hk⟩ := runL_inv (copOk hω) hN true ops.toList _ T H kn hd h
        exact ⟨.normal, T', H', fun Q hQ => quiet_draw hm hrg.1 hrg.2 htr hb hQ, hn, hk⟩
      | false =>
        rw [hrg, ifK_false] at h
        cases hrm : regOkM P G N ops with
        | true =>
          rw [hrm, ifK_true] at h
          have h1 := hrm
          simp only [regOkM, Bool.and_eq_true] at h1
          have hd : dstOk N ops.toList = true := by
            have := h1.1
            simp only [regionOk, Bool.and_eq_true] at this
            exact this.2
          obtain ⟨u, s, T', H', htr, hn, hb, hsr, hk⟩ := runM_inv (copOk hω) hN ops.toList _ [] T H _ hd h
          obtain ⟨h2, h3⟩ := ifK_inv hk
          simp only [List.append_nil, List.reverse_reverse] at h2
          exact ⟨.normal, T', H', fun Q hQ => checked_draw hm (copOk hω) h1.1 _ rfl h1.2 htr hb hsr h2 hQ, hn, h3⟩
        | false =>
          rw [hrm, ifK_false] at h
          obtain ⟨h1, h⟩ := ifK_inv h
          simp only [regOkZ, Bool.and_eq_true] at h1
          have hd : dstOk N ops.toList = true := by
            have := h1.1
            simp only [regionOk, Bool.and_eq_true] at this
            exact this.2
          obtain ⟨u, s, T', H', htr, hn, hb, hsr, hk⟩ := runM_inv (copZOk hω) hN ops.toList _ [] T H _ hd h
          obtain ⟨h2, h3⟩ := ifK_inv hk
          simp only [List.append_nil, List.reverse_reverse] at h2
          exact ⟨.normal, T', H', fun Q hQ => checked_draw hm (copZOk hω) h1.1 _ rfl h1.2 htr hb hsr h2 hQ, hn, h3⟩
    | false =>
      have h : ifK (dstOk N ops.toList) (runL ω P G (ops.toList.map (fcoper (fcop P G) ops false)) 1048576 T H kn) false = true := h
      obtain ⟨h1, h⟩ := ifK_inv h
      obtain ⟨u, T', H', htr, hn, hb, hk⟩ := runL_inv (copOk hω) hN false ops.toList _ T H kn h1 h
      exact ⟨.normal, T', H', fun Q hQ => aw_region (tr_al htr h1 hQ), hn, hk⟩
  | seq a b iha ihb =>
    intro kn kr ke T H h
    obtain ⟨e, T1, H1, h1, h2, h3⟩ := iha (fun T H => fexec ω P G N n b kn kr ke T H) kr ke T H h
    cases e with
    | normal =>
      obtain ⟨e', T2, H2, g1, g2, g3⟩ := ihb kn kr ke T1 H1 h3
      exact ⟨e', T2, H2, fun Q hQ => aw_seq (h1 (QThen (fun T H => AW P G N b Q T H) Q) (g1 Q hQ)), by omega, g3⟩
    | exit i => exact ⟨.exit i, T1, H1, fun Q hQ => aw_seq (h1 (QThen (fun T H => AW P G N b Q T H) Q) hQ), h2, h3⟩
    | ret => exact ⟨.ret, T1, H1, fun Q hQ => aw_seq (h1 (QThen (fun T H => AW P G N b Q T H) Q) hQ), h2, h3⟩
    | goto _ => simp [contOf] at h3
    | panic _ => simp [contOf] at h3
    | outgrown => simp [contOf] at h3
  | cond x a b iha ihb =>
    intro kn kr ke T H h
    obtain ⟨y, hy, h⟩ := optK_inv (show optK (fx G x) (fun y => (y.get T).onBool false fun b' => ifK b' (fexec ω P G N n a kn kr ke T H) (fexec ω P G N n b kn kr ke T H)) = true from h)
    rcases AV.onBool_inv h with ⟨t, ht, h⟩ | ⟨h, _⟩
    · have hx : aval G T.fn x = some (.bool t) := by rw [fx_eq hy, ht]
      cases t with
      | true =>
        obtain ⟨e, T1, H1, h1, h2, h3⟩ := iha kn kr ke T H h
        exact ⟨e, T1, H1, fun Q hQ => aw_cond hx (h1 Q hQ), h2, h3⟩
      | false =>
        obtain ⟨e, T1, H1, h1, h2, h3⟩ := ihb kn kr ke T H h
        exact ⟨e, T1, H1, fun Q hQ => aw_cond hx (h1 Q hQ), h2, h3⟩
    · simp at h
  | block id c ih =>
    intro kn kr ke T H h
    obtain ⟨e, T1, H1, h1, h2, h3⟩ := ih kn kr (fun i => ifK (Nat.beq i id) kn (ke i)) T H h
    cases e with
    | exit i =>
      have h3 : ifK (Nat.beq i id) kn (ke i) T1 H1 = true := h3
      cases hb : Nat.beq i id with
      | true =>
        rw [hb] at h3
        have hid : i = id := by simpa using hb
        exact ⟨.normal, T1, H1, fun Q hQ => aw_block (h1 (QBlock id Q) (by simp only [QBlock]; rw [if_pos hid]; exact hQ)), h2, h3⟩
      | false =>
        rw [hb] at h3
        have hid : ¬ i = id := fun e => by subst e; simp at hb
        exact ⟨.exit i, T1, H1, fun Q hQ => aw_block (h1 (QBlock id Q) (by simp only [QBlock]; rw [if_neg hid]; exact hQ)), h2, h3⟩
    | normal => exact ⟨.normal, T1, H1, fun Q hQ => aw_block (h1 (QBlock id Q) hQ), h2, h3⟩
    | ret => exact ⟨.ret, T1, H1, fun Q hQ => aw_block (h1 (QBlock id Q) hQ), h2, h3⟩
    | goto _ => simp [contOf] at h3
    | panic _ => simp [contOf] at h3
    | outgrown => simp [contOf] at h3
  | loop c ih =>
    intro kn kr ke T H h
    have key : ∀ (m : Nat) (T : ET) (H : FH), Nat.rec (motive := fun _ => ET → FH → Bool) (fun _ _ => false) (fun _ lp T H => fexec ω P G N n c lp kr ke T H) m T H = true →
        ∃ e T' H', e ≠ Exit.normal ∧ H.next ≤ H'.next ∧ contOf kn kr ke e T' H' = true ∧
          ∀ (Q : Exit → (Nat → AV) → AHeap → Prop) (E0 : Env) (a : Act) (w : World) b k cs, Q e (ET.fn T') (FH.abs H') → GRel E0 G → St E0 N T.fn H.abs a w →
            ∃ e a' w', lift Q E0 N e a' w' ∧ Arrives P (lone (b.at a (.code c :: .inLoop c :: k)) cs w) b k cs e a' w' := by
      intro m
      induction m with
      | zero => intro T H h; simp at h
      | succ m ihm =>
        intro T H h
        obtain ⟨e, T1, H1, h1, h2, h3⟩ := ih _ kr ke T H h
        have pass : e ≠ .normal → contOf kn kr ke e T1 H1 = true → (∀ i, e ≠ .goto i) → ∃ e T' H', e ≠ Exit.normal ∧ H.next ≤ H'.next ∧ contOf kn kr ke e T' H' = true ∧
          ∀ (Q : Exit → (Nat → AV) → AHeap → Prop) (E0 : Env) (a : Act) (w : World) b k cs, Q e (ET.fn T') (FH.abs H') → GRel E0 G → St E0 N T.fn H.abs a w →
            ∃ e a' w', lift Q E0 N e a' w' ∧ Arrives P (lone (b.at a (.code c :: .inLoop c :: k)) cs w) b k cs e a' w' := by
          intro hne hk hng
          refine ⟨e, T1, H1, hne, h2, hk, fun Q E0 a w b k cs hQ hG hs => ?_⟩
          obtain ⟨e2, a1, w1, ⟨T2, H2, ⟨rfl, rfl, rfl⟩, s⟩, harr⟩ := h1 (fun e' T' H' => e' = e ∧ T' = T1.fn ∧ H' = H1.abs) ⟨rfl, rfl, rfl⟩ E0 a w hG hs b (.inLoop c :: k) cs
          cases e2 with
          | normal => exact absurd rfl hne
          | exit i => exact ⟨_, a1, w1, ⟨_, _, hQ, s⟩, .pass (x := .inLoop c) rfl (fun _ _ => .inl (by simp)) harr⟩
          | ret => exact ⟨_, a1, w1, ⟨_, _, hQ, s⟩, .pass (x := .inLoop c) rfl (fun _ _ => .inl (by simp)) harr⟩
          | goto l => exact absurd rfl (hng l)
          | panic _ => exact ⟨_, a1, w1, ⟨_, _, hQ, s⟩, .pass (x := .inLoop c) rfl (fun _ _ => .inl (by simp)) harr⟩
          | outgrown => exact ⟨_, a1, w1, ⟨_, _, hQ, s⟩, .pass (x := .inLoop c) rfl (fun _ _ => .inl (by simp)) harr⟩
        cases e with
        | normal =>
          obtain ⟨e2, T2, H2, g1, g2, g3, g4⟩ := ihm T1 H1 h3
          refine ⟨e2, T2, H2, g1, by omega, g3, fun Q E0 a w b k cs hQ hG hs => ?_⟩
          obtain ⟨e3, a1, w1, ⟨T3, H3, ⟨rfl, rfl, rfl⟩, s⟩, harr⟩ := h1 (fun e' T' H' => e' = .normal ∧ T' = T1.fn ∧ H' = H1.abs) ⟨rfl, rfl, rfl⟩ E0 a w hG hs b (.inLoop c :: k) cs
          obtain ⟨e4, a2, w2, q2, harr2⟩ := g4 Q E0 a1 w1 b k cs hQ hG s
          exact ⟨e4, a2, w2, q2, .of_steps (Steps.trans harr (.one step_inLoop)) harr2⟩
        | exit i => exact pass (by simp) h3 (by simp)
        | ret => exact pass (by simp) h3 (by simp)
        | goto _ => simp [contOf] at h3
        | panic _ => simp [contOf] at h3
        | outgrown => simp [contOf] at h3
    obtain ⟨e, T', H', h1, h2, h3, h4⟩ := key n T H h
    refine ⟨e, T', H', fun Q hQ E0 a w hG hs b k cs => ?_, h2, h3⟩
    obtain ⟨e2, a', w', hq, harr⟩ := h4 Q E0 a w b k cs hQ hG hs
    exact ⟨e2, a', w', hq, .of_steps (.one step_loop) harr⟩
  | exit id => exact fun kn kr ke T H h => ⟨.exit id, T, H, fun Q hQ => aw_exit hQ, Nat.le_refl _, h⟩
  | ret => exact fun kn kr ke T H h => ⟨.ret, T, H, fun Q hQ => aw_ret hQ, Nat.le_refl _, h⟩
  | rangeFunc _ _ _ _ _ _ => intro kn kr ke T H h; have h : false = true := h; simp at h
  | scope _ _ => intro kn kr ke T H h; have h : false = true := h; simp at h
  | label _ => intro kn kr ke T H h; have h : false = true := h; simp at h
  | goto _ => intro kn kr ke T H h; have h : false = true := h; simp at h
  | refuse _ => intro kn kr ke T H h; have h : false = true := h; simp at h
theorem loadK_inv {g : Bool} {n : Nat} {a : AV} {t : TypeId} {H : FH} {k : AV → FH → Bool} (hg : aagg P t = some g) (hn : asize P t = some n) (h : loadK 1048576 g n a H k = true) :
    ∃ cs v, aat H.abs.get a = some cs ∧ acut P t cs = some v ∧ k v H = true := by
  rcases AV.onPtr_inv h with ⟨i, off, rfl, h⟩ | ⟨cs, rfl, h⟩
  · obtain ⟨h1, h'⟩ := ifK_inv h
    obtain ⟨b, hb, h', _⟩ := FH.atK_inv h'
    have hb : H.abs.get i = some (.cells b.list) := hb
    cases g with
    | true =>
      obtain ⟨h2, h3⟩ := FObj.cutK_inv (show b.cutK off n (fun l => k (.agg l) H) false = true from h')
      refine ⟨b.list.drop off, .agg ((b.list.drop off).take n), by simp only [aat, hb]; rw [if_pos (by omega)], ?_, h3⟩
      simp only [acut, hg, hn]
      rw [if_pos (by simp; omega)]
    | false =>
      obtain ⟨v, h2, h3⟩ := FObj.cellK_inv (show b.cellK off (fun v => k v H) false = true from h')
      have hlt : off < b.list.length := by
        rcases Nat.lt_or_ge off b.list.length with g | g
        · exact g
        · rw [List.getElem?_eq_none g] at h2; simp at h2
      refine ⟨b.list.drop off, v, by simp only [aat, hb]; rw [if_pos (by omega)], ?_, h3⟩
      simp only [acut, hg, hn]
      rw [List.getElem?_drop, Nat.add_zero]; exact h2
  · cases g with
    | true =>
      have h' : takeK cs n (fun l => k (.agg l) H) false = true := h
      rw [takeK_eq] at h'
      split at h' <;> try (simp at h'; done)
      rename_i h2
      exact ⟨cs, .agg (cs.take n), rfl, by simp only [acut, hg, hn, if_pos h2], h'⟩
    | false =>
      have h' : nthK cs 0 (fun v => k v H) false = true := h
      rw [nthK_eq] at h'
      split at h' <;> try (simp at h'; done)
      rename_i v hc
      exact ⟨cs, v, rfl, by simp only [acut, hg, hn, hc], h'⟩
theorem resK_inv {T : ET} {H : FH} : ∀ {rs : List ResultVar} {k : List AV → Bool}, resK P G rs T H k = true → ∃ vs, aresults P T.fn H.abs.get rs = some vs ∧ k vs = true
  | [], k, h => ⟨[], rfl, h⟩
  | .tmp t :: rs, k, h => by
    obtain ⟨x, hx, h⟩ := optK_inv (show optK (fx G (.tmp t)) (fun x => resK P G rs T H fun vs => k (x.get T :: vs)) = true from h)
    obtain ⟨vs, h1, h2⟩ := resK_inv h
    have hv : some (T.fn t) = some (x.get T) := fx_eq (G := G) (x := .tmp t) hx
    simp only [Option.some.injEq] at hv
    exact ⟨x.get T :: vs, by simp only [aresults, aresult, h1, hv], h2⟩
  | .cell a t :: rs, k, h => by
    obtain ⟨x, hx, h⟩ := optK_inv (show optK (fx G (.tmp a)) (fun x => optK (aagg P t) fun g => optK (asize P t) fun n => loadK 1048576 g n (x.get T) H fun v _ => v.force fun v => resK P G rs T H fun vs => k (v :: vs)) = true from h)
    obtain ⟨g, hg, h⟩ := optK_inv h
    obtain ⟨n, hn, h⟩ := optK_inv h
    obtain ⟨cs, v, h1, h2, h⟩ := loadK_inv hg hn h
    have h := (AV.force_eq v (fun v => resK P G rs T H fun vs => k (v :: vs))).symm.trans h
    obtain ⟨vs, h3, h4⟩ := resK_inv h
    have hv : some (T.fn a) = some (x.get T) := fx_eq (G := G) (x := .tmp a) hx
    simp only [Option.some.injEq] at hv
    exact ⟨v :: vs, by simp only [aresults, aresult, hv, h1, h2, h3], h4⟩
theorem oneK_inv {T : Nat → AV} {get : Nat → Option AObj} {rs : List ResultVar} {vs : List AV} {k : AV → Bool} (hv : aresults P T get rs = some vs) (h : oneK vs k = true) : ∃ r, ares P T get rs = some r ∧ k r = true := by
  match vs with
  | [] => exact ⟨.tuple [], by simp only [ares, hv], h⟩
  | [a] => exact ⟨a, by simp only [ares, hv], h⟩
  | a :: b :: r => exact ⟨.tuple (a :: b :: r), by simp only [ares, hv], h⟩
theorem initK_inv : ∀ (vs : List AV) (i : Nat) (T : ET) (k : ET → Bool), i + vs.length ≤ 1024 → initK vs i T k = true → ∃ T' : ET, (T'.fn = fun t => if i ≤ t then (match vs[t - i]? with | some v => v | none => T.fn t) else T.fn t) ∧ k T' = true
  | [], i, T, k, _, h => ⟨T, by funext t; simp, h⟩
  | v :: vs, i, T, k, hl, h => by
    simp only [List.length_cons] at hl
    have h : ET.put (P32.of (Nat.div i 32)) (P32.of (Nat.mod i 32)) v T (fun T => natK (Nat.add i 1) fun i => initK vs i T k) = true := h
    rw [ET.put_eq, natK_eq] at h
    obtain ⟨T', h1, h2⟩ := initK_inv vs (i + 1) _ k (by omega) h
    refine ⟨T', ?_, h2⟩
    rw [h1]
    have e : ET.fn (ET.set T (P32.of (Nat.div i 32)) (P32.of (Nat.mod i 32)) v) = tput T.fn (some i) v := ET.fn_set T i v (by omega)
    rw [e]
    funext t
    by_cases h3 : i + 1 ≤ t
    · have hp : tput T.fn (some i) v t = T.fn t := by simp only [tput]; rw [if_neg (by omega)]
      rw [if_pos h3, if_pos (by omega), hp]
      have : t - i = (t - (i + 1)) + 1 := by omega
      rw [this, List.getElem?_cons_succ]
    · rw [if_neg h3]
      simp only [tput]
      by_cases h4 : t = i
      · subst h4; simp
      · rw [if_neg h4, if_neg (by omega)]
def OvGoodK (P : Program) (G : Nat → Option AV) (ov : Ov) : Prop :=
  ∀ f g, ov f = some g → ∀ args H k, g args H k = true → ∃ v H', Does P G f args H.abs (fun r h => r = v ∧ h = FH.abs H') ∧ H.next ≤ H'.next ∧ k v H' = true
theorem fcall_sound {ov : Ov} {fuel : Nat} (hm : P.follows .mixedOrders = true) (hp : plainFn P = true) (hov : OvGoodK P G ov) : ∀ n, GoodK P G (fcall ov P G fuel n)
  | 0 => fun f args H k h => by have h : false = true := h; simp at h
  | n + 1 => fun f args H k h => by
    have ih := fcall_sound (fuel := fuel) hm hp hov n
    have h : Option.rec (motive := fun _ => Bool)
      (optK (P.funcs[f]?) fun fn => optK fn.body fun c => ifK (Nat.ble (lenN args) fn.ntmps) (ifK (Nat.ble fn.ntmps 1024)
        (initK args 0 ET.none fun T =>
          fexec (fcall ov P G fuel n) P G fn.ntmps fuel c (fun T H => resK P G fn.results.toList T H fun vs => oneK vs fun v => k v H) (fun T H => resK P G fn.results.toList T H fun vs => oneK vs fun v => k v H) (fun _ _ _ => false) T H) false) false)
      (fun g => g args H k) (ov f) = true := h
    cases ho : ov f with
    | some g => rw [ho] at h; exact hov f g ho args H k h
    | none =>
      rw [ho] at h
      obtain ⟨fn, hf, h⟩ := optK_inv h
      obtain ⟨c, hb, h⟩ := optK_inv h
      obtain ⟨h1, h⟩ := ifK_inv h
      obtain ⟨h2, h⟩ := ifK_inv h
      have h1 : lenN args ≤ fn.ntmps := Nat.le_of_ble_eq_true h1
      rw [lenN_eq] at h1
      have h2 : fn.ntmps ≤ 1024 := Nat.le_of_ble_eq_true h2
      obtain ⟨T, hT, h⟩ := initK_inv args 0 ET.none _ (by omega) h
      obtain ⟨e, T', H', g1, g2, g3⟩ := fexec_sound hm ih h2 fuel c _ _ _ T H h
      have hT0 : T.fn = fun t => args.getD t undefA := by
        rw [hT]
        funext t
        rw [if_pos (Nat.zero_le _), Nat.sub_zero, ET.fn_none, List.getD]
        cases args[t]? <;> rfl
      have fin : (e = .normal ∨ e = .ret) → resK P G fn.results.toList T' H' (fun vs => oneK vs fun v => k v H') = true → ∃ v H', Does P G f args H.abs (fun r h => r = v ∧ h = FH.abs H') ∧ H.next ≤ H'.next ∧ k v H' = true := by
        intro he hr
        obtain ⟨vs, r1, r2⟩ := resK_inv hr
        obtain ⟨r, r3, r4⟩ := oneK_inv r1 r2
        refine ⟨r, H', does_of (enters_of hp hf hb) hf hb h1 ?_, g2, r4⟩
        rw [← hT0]
        exact g1 _ ⟨he, r, r3, rfl, rfl⟩
      cases e with
      | normal => exact fin (.inl rfl) g3
      | ret => exact fin (.inr rfl) g3
      | exit _ => simp [contOf] at g3
      | goto _ => simp [contOf] at g3
      | panic _ => simp [contOf] at g3
      | outgrown => simp [contOf] at g3
end
def noOv : Ov := fun _ => none
theorem noOv_good (P : Program) (G : Nat → Option AV) : OvGoodK P G noOv := fun _ _ h => by simp [noOv] at h
end Go.Abs

namespace Go.Abs
open Go Go.RowKit
noncomputable def idxK (k : Int → Bool) (s : List UInt8) : Nat → Nat → Bool :=
  List.rec (motive := fun _ => Nat → Nat → Bool) (fun _ _ => k (Int.negSucc 0)) (fun b _ ih c i => ifK (Nat.beq b.toNat c) (k (Int.ofNat i)) (natK (Nat.succ i) fun i => ih c i)) s
theorem indexByte_cases (b : UInt8) (l : List UInt8) (c : UInt8) : Go.Lib.indexByte (b :: l) c = if b = c then 0 else if Go.Lib.indexByte l c = -1 then -1 else Go.Lib.indexByte l c + 1 := by
  simp [Go.Lib.indexByte]
theorem idxK_inv {k : Int → Bool} {c : UInt8} : ∀ (s : List UInt8) (i : Nat), idxK k s c.toNat i = true → k (if Go.Lib.indexByte s c = -1 then -1 else Go.Lib.indexByte s c + i) = true
  | [], i, h => h
  | b :: l, i, h => by
    have h : ifK (Nat.beq b.toNat c.toNat) (k (Int.ofNat i)) (natK (Nat.succ i) fun i => idxK k l c.toNat i) = true := h
    rw [indexByte_cases]
    by_cases e : b = c
    · subst e
      have e1 : Nat.beq b.toNat b.toNat = true := Nat.beq_refl _
      rw [e1, ifK_true] at h
      simpa using h
    · have e1 : Nat.beq b.toNat c.toNat = false := by
        cases h' : Nat.beq b.toNat c.toNat with
        | false => rfl
        | true => exact absurd (UInt8.toNat_inj.1 (Nat.eq_of_beq_eq_true h')) e
      rw [e1, ifK_false, natK_eq] at h
      have := idxK_inv l (i + 1) h
      rw [if_neg e]
      have hge := Go.Lib.indexByte_ge l c
      by_cases e2 : Go.Lib.indexByte l c = -1
      · rw [if_pos e2] at this ⊢; simpa using this
      · rw [if_neg e2] at this ⊢
        rw [if_neg (by omega)]
        have : Go.Lib.indexByte l c + 1 + (i : Int) = Go.Lib.indexByte l c + ((i + 1 : Nat) : Int) := by omega
        rw [this]; assumption
noncomputable def idxOv (args : List AV) (H : FH) (k : AV → FH → Bool) : Bool :=
  nthK args 0 (fun a => nthK args 1 (fun b => ifK (Nat.beq (lenN args) 2)
    (a.onStr false fun s => b.onInt false fun kd n => ifK (kindB kd .u8) (natK n.toNat fun c => ifK (Nat.blt c 256) (idxK (fun r => k (.int .i64 r) H) s c 0) false) false) false) false) false
structure IsIdx (P : Program) (f : FuncId) : Prop where
  ex : ∃ fn, P.funcs[f]? = some fn ∧ (fn.name == "runtime.NumGoroutine") = false ∧ fn.body.isNone = true ∧ Extern.findNext fn = none ∧ Extern.find fn = some Extern.BytealgIndexByte.indexByte
theorem nthK_inv {α : Type} {l : List α} {n : Nat} {k : α → Bool} (h : nthK l n k false = true) : ∃ a, l[n]? = some a ∧ k a = true := by
  rw [nthK_eq] at h
  split at h
  · rename_i a ha; exact ⟨a, ha, h⟩
  · simp at h
theorem idx_does {P : Program} {G : Nat → Option AV} {f : FuncId} (hf : IsIdx P f) (s : List UInt8) (c : Int) (H : AHeap) :
    Does P G f [.str s, .int .u8 c] H fun r h => r = .int .i64 (Go.Lib.indexByte s c.toNat.toUInt8) ∧ h = H := by
  obtain ⟨fn, h1, h2, h3, h4, h5⟩ := hf.ex
  refine ⟨fun E w vs hR hG hv => ?_⟩
  cases hv with | cons ha hv =>
  cases hv with | cons hb hv =>
  cases hv
  cases ha
  cases hb
  refine .inr ⟨.int .i64 (Go.Lib.indexByte s c.toNat.toUInt8), w, ?_, _, H, E, ⟨rfl, rfl⟩, Ext.refl E, .int _ _, hR⟩
  rw [run_callFunc_extern h1 h2 h3 h4 h5]
  have := Go.Lib.run_indexByteString (P := P) ⟨s.toArray⟩ c w
  simp only at this
  rw [this]
  rfl
theorem idxOv_good {P : Program} {G : Nat → Option AV} {f : FuncId} (hf : IsIdx P f) (args : List AV) (H : FH) (k : AV → FH → Bool) (h : idxOv args H k = true) :
    ∃ v H', Does P G f args H.abs (fun r h => r = v ∧ h = FH.abs H') ∧ H.next ≤ H'.next ∧ k v H' = true := by
  obtain ⟨a, ha, h⟩ := nthK_inv h
  obtain ⟨b, hb, h⟩ := nthK_inv h
  obtain ⟨hl, h⟩ := ifK_inv h
  have hl := Nat.eq_of_beq_eq_true hl
  rw [lenN_eq] at hl
  obtain rfl : args = [a, b] := by
    match args, hl with
    | [x, y], _ => simp at ha hb; subst ha; subst hb; rfl
  rcases AV.onStr_inv h with ⟨s, rfl, h⟩ | ⟨h, _⟩
  case inr => simp at h
  rcases AV.onInt_inv (show AV.onInt false _ b = true from h) with ⟨kd, n, rfl, h⟩ | ⟨h, _⟩
  case inr => simp at h
  have h : ifK (kindB kd .u8) (natK n.toNat fun c => ifK (Nat.blt c 256) (idxK (fun r => k (.int .i64 r) H) s c 0) false) false = true := h
  obtain ⟨hk, hx⟩ := ifK_inv h
  rw [natK_eq] at hx
  obtain ⟨hlt, hx⟩ := ifK_inv hx
  have hlt : n.toNat < 256 := Nat.le_of_ble_eq_true hlt
  obtain rfl : kd = .u8 := kindB_eq.1 hk
  have e : (n.toNat.toUInt8).toNat = n.toNat := by simp [Nat.toUInt8]; omega
  rw [← e] at hx
  have := idxK_inv s 0 hx
  refine ⟨_, H, idx_does hf s n H.abs, Nat.le_refl _, ?_⟩
  have hge := Go.Lib.indexByte_ge s n.toNat.toUInt8
  split at this
  · rename_i e; rw [e]; exact this
  · simpa using this
end Go.Abs

namespace Go.Lex
set_option linter.unusedVariables false
abbrev Bs := List UInt8
def isBlank (b : UInt8) : Bool := b == 32 || b == 9 || b == 10 || b == 13
def isLetter (b : UInt8) : Bool := decide (97 ≤ b.toNat) && decide (b.toNat ≤ 122)
def isDigit (b : UInt8) : Bool := decide (48 ≤ b.toNat) && decide (b.toNat ≤ 57)
def isNamec (b : UInt8) : Bool := isLetter b || isDigit b || b == 95
theorem dropWhile_le {α : Type} (p : α → Bool) : ∀ l : List α, (l.dropWhile p).length ≤ l.length
  | [] => Nat.le_refl _
  | a :: l => by
    rw [List.dropWhile_cons]
    split
    · exact Nat.le_succ_of_le (dropWhile_le p l)
    · exact Nat.le_refl _
def betw (s : Bs) : Bs :=
  match h : s.dropWhile isBlank with
  | 45 :: 45 :: q => betw (q.dropWhile fun b => b != 10)
  | r => r
termination_by s.length
decreasing_by
  have h1 := dropWhile_le isBlank s
  rw [h] at h1
  have h2 := dropWhile_le (fun b : UInt8 => b != 10) q
  simp only [List.length_cons] at h1
  omega
def keptWords : List Bs := [[110,111,100,101],[114,101,116,117,114,110,115],[118,97,114],[108,101,116],[116,101,108],[98,111,111,108],[105,110,116],[116,114,117,101],[102,97,108,115,101],[110,111,116],[97,110,100],[111,114],[120,111,114],[109,111,100],[105,102],[116,104,101,110],[101,108,115,101],[112,114,101],[102,98,121],[119,104,101,110],[109,101,114,103,101]]
def kept (s : Bs) : Bool := keptWords.contains s
def signs : List Bs := [[60,61],[62,61],[60,62],[45,62],[40],[41],[58],[59],[44],[61],[43],[45],[42],[47],[60],[62]]
def signOf (s : Bs) : Option Bs := signs.find? fun x => x.isPrefixOf s
def numVal (s : Bs) : Nat := s.foldl (fun n b => 10 * n + (b.toNat - 48)) 0
structure Wd where
  kind : Nat
  text : Bs
  n : Nat
  deriving DecidableEq
def wordS (s : Bs) : Option Wd := match s with
  | [] => none
  | b :: _ =>
    if isLetter b then
      (if kept (s.takeWhile isNamec) then some ⟨2, s.takeWhile isNamec, 0⟩ else if (s.takeWhile isNamec).length ≤ 24 then some ⟨1, s.takeWhile isNamec, 0⟩ else none)
    else if isDigit b then
      (if numVal (s.takeWhile isDigit) < 9223372036854775808 ∧ ((s.takeWhile isDigit).length = 1 ∨ b ≠ 48) then some ⟨3, s.takeWhile isDigit, numVal (s.takeWhile isDigit)⟩ else none)
    else match signOf s with
      | some t => some ⟨4, t, 0⟩
      | none => none
def cutS (n : Nat) (s : Bs) : Except Nat (List (Nat × Wd)) :=
  match h : betw s with
  | [] => .ok []
  | b :: r => match wordS (b :: r) with
    | none => .error (n - (r.length + 1))
    | some w => match cutS n (r.drop (w.text.length - 1)) with
      | .ok l => .ok ((n - (r.length + 1), w) :: l)
      | .error e => .error e
termination_by s.length
decreasing_by
  have hb : ∀ s : Bs, (betw s).length ≤ s.length := by
    intro s
    induction s using betw.induct with
    | case1 s q h ih =>
      rw [betw]
      split
      · rename_i q' h'
        rw [h] at h'
        simp only [List.cons.injEq, true_and] at h'
        subst h'
        have h1 := dropWhile_le isBlank s
        rw [h] at h1
        have h2 := dropWhile_le (fun b : UInt8 => b != 10) q
        simp only [List.length_cons] at h1
        omega
      · rename_i h'
        exact absurd h (h' q)
    | case2 s h =>
      rw [betw]
      split
      · rename_i q h'
        exact absurd h' (h q)
      · exact dropWhile_le isBlank s
  have h1 := hb s
  rw [h] at h1
  simp only [List.length_cons, List.length_drop] at h1 ⊢
  omega
end Go.Lex

namespace Go.Abs
open Go Go.RowKit
theorem Rel.below {E : Env} {H : AHeap} {w w' : World} (h : Rel E H w) (b : Below w.heap.size w w') : Rel E H w' := by
  have hb : ∀ (B : Nat) (o : Obj), w.heap[B]? = some o → w'.heap[B]? = some o := fun B o ho => by
    rw [b.block B (Array.getElem?_eq_some_iff.1 ho).1]; exact ho
  exact ⟨b.os.trans h.os, b.output.trans h.out, fun B o hB => hb _ _ (h.K B o hB), fun B o hB => hb _ _ (h.F B o hB), h.KF, h.dom, fun i x hi => by
    obtain ⟨p, ob, g1, g2, g3, g4, g5⟩ := h.live i x hi
    exact ⟨p, ob, g1, g2, g3, hb _ _ g4, g5⟩, h.inj⟩
structure IsCopy (P : Program) (f : FuncId) : Prop where
  enters : Enters P f
  runs : ∀ (s : ByteArray) (w : World), s.size ≤ 281474976710656 → Calls P f #[.string s] w fun e w' => e = .returned (.string s) ∧ Below w.heap.size w w'
theorem copy_does {P : Program} {G : Nat → Option AV} {f : FuncId} (hf : IsCopy P f) (s : List UInt8) (hs : s.length ≤ 281474976710656) (H : AHeap) : Does P G f [.str s] H fun r h => r = .str s ∧ h = H := by
  refine ⟨fun E w vs hR hG hv => ?_⟩
  cases hv with | cons ha hv =>
  cases hv
  cases ha
  refine .inl ⟨hf.enters _ _, (hf.runs ⟨s.toArray⟩ w (by simpa [ByteArray.size] using hs)).mono fun e w' ⟨h1, h2⟩ => ⟨_, h1, .str s, H, E, ⟨rfl, rfl⟩, Ext.refl E, .str s, hR.below h2⟩⟩
noncomputable def copyOv (args : List AV) (H : FH) (k : AV → FH → Bool) : Bool :=
  nthK args 0 (fun a => ifK (Nat.beq (lenN args) 1) (a.onStr false fun s => ifK (Nat.ble (lenN s) 281474976710656) (k (.str s) H) false) false) false
theorem copyOv_good {P : Program} {G : Nat → Option AV} {f : FuncId} (hf : IsCopy P f) (args : List AV) (H : FH) (k : AV → FH → Bool) (h : copyOv args H k = true) :
    ∃ v H', Does P G f args H.abs (fun r h => r = v ∧ h = FH.abs H') ∧ H.next ≤ H'.next ∧ k v H' = true := by
  obtain ⟨a, ha, h⟩ := nthK_inv h
  obtain ⟨hl, h⟩ := ifK_inv h
  have hl := Nat.eq_of_beq_eq_true hl
  rw [lenN_eq] at hl
  obtain rfl : args = [a] := by
    match args, hl with
    | [x], _ => simp at ha; subst ha; rfl
  rcases AV.onStr_inv h with ⟨s, rfl, h⟩ | ⟨h, _⟩
  case inr => simp at h
  have h : ifK (Nat.ble (lenN s) 281474976710656) (k (.str s) H) false = true := h
  obtain ⟨h1, h2⟩ := ifK_inv h
  have h1 : lenN s ≤ 281474976710656 := Nat.le_of_ble_eq_true h1
  rw [lenN_eq] at h1
  exact ⟨_, H, copy_does hf s h1 H.abs, Nat.le_refl _, h2⟩
noncomputable def ovAdd (a : FuncId) (g : List AV → FH → (AV → FH → Bool) → Bool) (o : Ov) : Ov := fun f => ifK (Nat.beq f a) (some g) (o f)
theorem ovAdd_good {P : Program} {G : Nat → Option AV} {a : FuncId} {g : List AV → FH → (AV → FH → Bool) → Bool} {o : Ov}
    (hg : ∀ args H k, g args H k = true → ∃ v H', Does P G a args H.abs (fun r h => r = v ∧ h = FH.abs H') ∧ H.next ≤ H'.next ∧ k v H' = true) (ho : OvGoodK P G o) : OvGoodK P G (ovAdd a g o) := by
  intro f g' h args H k hk
  unfold ovAdd at h
  cases e : Nat.beq f a with
  | true =>
    obtain rfl := Nat.eq_of_beq_eq_true e
    rw [e, ifK_true] at h
    simp only [Option.some.injEq] at h; subst h
    exact hg args H k hk
  | false => rw [e, ifK_false] at h; exact ho f g' h args H k hk
end Go.Abs

namespace Go.Abs
open Go
section
variable {P : Program} {E : Env} {w : World} {t u e ty : TypeId} {info : TypeInfo} {s : List UInt8} {us ux : Value}
end
end Go.Abs

namespace Go.Abs
open Go
section
variable {P : Program} (w : World)
end
end Go.Abs
namespace Go.Abs
open Go
end Go.Abs

namespace Go.Abs
open Go Go.RowKit
structure IsCheck (P : Program) (f : FuncId) (T u : TypeId) : Prop where
  enters : Enters P f
  lies : liesAt P P.depth T 1 0 u 1 = true
  cells : P.cellsOf T = 2
  fresh : ∀ (b n : Nat) (w : World), w.cell? ⟨b, 0, none⟩ = some (.pointer none) → w.shape? b = some (T, n) → 0 < n → liesAt P P.depth T (n / P.cellsOf T) 0 u 1 = true → w.frozen? ⟨b, 0, none⟩ = false →
    Calls P f #[.pointer (some ⟨b, 0, none⟩)] w fun e w' => e = .returned (.tuple #[]) ∧ w' = w.setCell ⟨b, 0, none⟩ (.pointer (some ⟨b, 0, none⟩))
  used : ∀ (b : Nat) (w : World), w.cell? ⟨b, 0, none⟩ = some (.pointer (some ⟨b, 0, none⟩)) → Calls P f #[.pointer (some ⟨b, 0, none⟩)] w fun e w' => e = .returned (.tuple #[]) ∧ w' = w
end Go.Abs

namespace Go.Abs
open Go Go.RowKit
structure IsWrite (P : Program) (f ck : FuncId) (T e t u : TypeId) : Prop where
  enters : Enters P f
  slice : P.underlying t = some (.slice e)
  string : P.underlying u = some .string
  info : ∃ info z, P.info? e = some info ∧ azero P e = some z ∧ z.cells.length = 1 ∧ info.size = 1 ∧ info.bytes = 1
  runs : ∀ (b : Nat) (s : ByteArray) (x x' y : Value) (w w1 w2 : World), (Calls P ck #[.pointer (some ⟨b, 0, none⟩)] w fun e w' => e = .returned (.tuple #[]) ∧ w' = w1) →
    w1.cell? ⟨b, 1, none⟩ = some x → (Builtin.append_ #[t, u] t #[x, .string s]).run P w1 = .ok x' w2 → ∀ (ao : Option Addr) (n c : Nat), x' = .slice ao n c → w2.cell? ⟨b, 1, none⟩ = some y → w2.frozen? ⟨b, 1, none⟩ = false →
    Calls P f #[.pointer (some ⟨b, 0, none⟩), .string s] w fun e w' => e = .returned (.tuple #[.int .i64 s.size, .nilIface]) ∧ w' = w2.setCell ⟨b, 1, none⟩ x'
structure IsString (P : Program) (f : FuncId) (e : TypeId) : Prop where
  enters : Enters P f
  empty : ∀ (b : Nat) (w : World), w.cell? ⟨b, 1, none⟩ = some (.slice none 0 0) → Calls P f #[.pointer (some ⟨b, 0, none⟩)] w fun e w' => e = .returned (.string ⟨#[]⟩) ∧ Below w.heap.size w w'
  full : ∀ (b g cap : Nat) (l : List UInt8) (c : Array Value) (fz : Nat × Nat) (w : World), w.cell? ⟨b, 1, none⟩ = some (.slice (some ⟨g, 0, none⟩) l.length cap) → w.heap[g]? = some (.cells c e fz) → (∀ (j : Nat) (x : UInt8), l[j]? = some x → w.cell? ⟨g, j, none⟩ = some (.int .u8 x.toNat)) →
    l ≠ [] → l.length ≤ cap → cap ≤ c.size → l.length ≤ 140737488355328 → Calls P f #[.pointer (some ⟨b, 0, none⟩)] w fun e w' => e = .returned (.string ⟨l.toArray⟩) ∧ (∀ C, C ≠ g → w'.heap[C]? = w.heap[C]?) ∧ w'.os = w.os ∧ w'.output = w.output
structure IsGrow (P : Program) (f ck : FuncId) (e : TypeId) : Prop where
  enters : Enters P f
  runs : ∀ (b n : Nat) (w w1 : World), (Calls P ck #[.pointer (some ⟨b, 0, none⟩)] w fun e w' => e = .returned (.tuple #[]) ∧ w' = w1) →
    w1.cell? ⟨b, 1, none⟩ = some (.slice none 0 0) → w1.frozen? ⟨b, 1, none⟩ = false → b < w1.heap.size → 0 < n → n ≤ 140737488355328 →
    Calls P f #[.pointer (some ⟨b, 0, none⟩), .int .i64 n] w fun x w' => x = .returned (.tuple #[]) ∧ ∃ c : Array Value, w'.heap = ((w1.alloc (.cells c e)).setCell ⟨b, 1, none⟩ (.slice (some ⟨w1.heap.size, 0, none⟩) 0 c.size)).heap ∧ w'.os = w1.os ∧ w'.output = w1.output
  runs0 : ∀ (b : Nat) (w w1 : World), (Calls P ck #[.pointer (some ⟨b, 0, none⟩)] w fun e w' => e = .returned (.tuple #[]) ∧ w' = w1) →
    w1.cell? ⟨b, 1, none⟩ = some (.slice none 0 0) → Calls P f #[.pointer (some ⟨b, 0, none⟩), .int .i64 0] w fun x w' => x = .returned (.tuple #[]) ∧ w'.heap = w1.heap ∧ w'.os = w1.os ∧ w'.output = w1.output
end Go.Abs

namespace Go.Abs
open Go Go.RowKit
section
variable {R : Type}
noncomputable def twoK (cs : List AV) (f : AV → AV → R) (z : R) : R :=
  List.rec (motive := fun _ => R) z (fun a r _ => List.rec (motive := fun _ => R) z (fun b q _ => List.rec (motive := fun _ => R) (f a b) (fun _ _ _ => z) q) r) cs
end
noncomputable def nilB {α : Type} (l : List α) : Bool := List.rec (motive := fun _ => Bool) true (fun _ _ _ => false) l
theorem nilB_eq {α : Type} (l : List α) : nilB l = true ↔ l = [] := by cases l <;> simp [nilB]
noncomputable def oneKK {R : Type} (cs : List AV) (f : AV → R) (z : R) : R := List.rec (motive := fun _ => R) z (fun a r _ => List.rec (motive := fun _ => R) (f a) (fun _ _ _ => z) r) cs
theorem oneKK_inv {cs : List AV} {f : AV → Bool} (h : oneKK cs f false = true) : ∃ a, cs = [a] ∧ f a = true := by
  match cs, h with
  | [a], h => exact ⟨a, rfl, h⟩
  | [], h => simp [oneKK] at h
  | _ :: _ :: _, h => simp [oneKK] at h
end Go.Abs

namespace Go.Proofs.YthmnpnbcdoemfaaGreatDoor
open Go Go.Abs Go.RowKit
/- internal/stringslite.Clone: the same bytes; of what was there nothing has turned. -/
set_option maxRecDepth 100000 in
theorem clone_runs (s : ByteArray) (w : World) (hlim : s.size ≤ 281474976710656) : Calls Tryz.prog 236 #[.string s] w fun e w' => e = .returned (.string s) ∧ Below w.heap.size w w' := by
  by_cases h0 : s.size = 0
  · obtain rfl : s = ⟨#[]⟩ := ByteArray.ext (Array.eq_empty_of_size_eq_zero h0)
    go_enter Tryz.func236, Tryz.ntmps236
    go_wp2
    go_ret
    exact ⟨rfl, Below.refl _ _⟩
  · have hi : Tryz.prog.info? 5 = some Tryz.t5 := by kernel_rfl
    have hz0 : Tryz.t5.zero = some (.int .u8 0) := by kernel_rfl
    have hz1 : Tryz.t5.size = 1 := by kernel_rfl
    have hz2 : Tryz.t5.bytes = 1 := by kernel_rfl
    have hinfo : (Tryz.prog.info? 5).map (·.size) = some 1 := by kernel_rfl
    have hco : Tryz.prog.cellsOf 5 = 1 := by kernel_rfl
    have u29 : Tryz.prog.underlying 23 = some (.slice 5) := Tryz.underlying23
    have u94 : Tryz.prog.underlying 327 = some (.pointer 5) := Tryz.underlying327
    have z5 : ∀ w, (Go.sizeOf 5).run Tryz.prog w = .ok 1 w := fun w => by kernel_rfl
    obtain ⟨M, hM⟩ : ∃ M, M = madeCells (Value.int .u8 0).cells (((s.size : Nat) : Int).toNat * Tryz.t5.size) := ⟨_, rfl⟩
    have hMs : M.size = s.size := by rw [hM, size_madeCells, hz1]; simp
    have hmk : ∀ W : World, (Instr.makeSlice 23 (.int .i64 (s.size : Int)) (.int .i64 (s.size : Int))).run Tryz.prog W = .ok (.slice (some ⟨W.heap.size, 0, none⟩) s.size s.size) (W.alloc (.cells M 5)) := fun W => by
      have h := run_make (P := Tryz.prog) W 23 5 Tryz.t5 (.int .u8 0) u29 hi hz0 .i64 .i64 (s.size : Int) (s.size : Int) (by omega) (by omega) (by rw [hz2]; omega) (by omega)
      rw [← hM] at h
      simpa using h
    clear hM
    have hcp := Lib.run_copy_row_string (P := Tryz.prog) (w.alloc (.cells M 5)) 23 9 3 5 w.heap.size 0 s.size s.size s M 5 u29 hinfo (heap_alloc_new w _) (Nat.le_refl _) (by omega)
    obtain ⟨Y, hY⟩ : ∃ Y, Y = (M.toList.take 0 ++ Lib.byteCells s.data.toList ++ M.toList.drop (0 + s.size)).toArray := ⟨_, rfl⟩
    rw [← hY] at hcp
    have hYl : Y.toList = Lib.byteCells s.data.toList := by
      rw [hY, List.toList_toArray, List.take_zero, List.nil_append, List.drop_of_length_le (by rw [Array.length_toList]; omega), List.append_nil]
    have hYs : Y.size = s.size := by rw [← Array.length_toList, hYl, Lib.byteCells_length, ← Lib.size_eq]
    have hgY : ((w.alloc (.cells M 5)).setRow w.heap.size Y).heap[w.heap.size]? = some (.cells Y 5 (0, 0)) := setRow_heap _ _ M _ 5 (0, 0) (heap_alloc_new w _)
    have hne : s.data.toList ≠ [] := fun e => h0 (by rw [Lib.size_eq, e]; rfl)
    have hUS := Lib.run_unsafeString_row (P := Tryz.prog) ((w.alloc (.cells M 5)).setRow w.heap.size Y) 327 3 9 5 u94 hco w.heap.size Y.size (by unfold World.shape?; rw [hgY]) s.data.toList hne (by rw [← Lib.size_eq]; omega) (by rw [← Lib.size_eq]; omega)
      (fun j x hx => Lib.cells_of_row hgY Y.size j _ (by rw [List.take_of_length_le (by rw [Array.length_toList]; exact Nat.le_refl _), hYl]; simp [Lib.byteCells, hx]))
    rw [← Lib.size_eq] at hUS
    clear hY
    go_enter Tryz.func236, Tryz.ntmps236
    go_wp2
    go_ret
    have hb1 : Below w.heap.size w (w.alloc (.cells M 5)) := (Below.refl _ w).alloc (Nat.le_refl _) _
    have hb2 : Below w.heap.size (w.alloc (.cells M 5)) ((w.alloc (.cells M 5)).setRow w.heap.size Y) := ⟨rfl, rfl, rfl, by simp, fun k hk => setRow_other _ _ _ _ (by omega)⟩
    exact ⟨rfl, Lib.below_freeze (hb1.trans hb2) (p := ⟨w.heap.size, 0, none⟩) (Nat.le_refl _) _⟩
theorem isCopy : IsCopy Tryz.prog 236 := ⟨Tryz.call236, clone_runs⟩
end Go.Proofs.YthmnpnbcdoemfaaGreatDoor

namespace Go.Lex
theorem betw_line' (s q : Bs) (h : s.dropWhile isBlank = 45 :: 45 :: q) : betw s = betw (q.dropWhile fun b => b != 10) := by
  rw [betw]
  split
  · rename_i q' h'
    rw [h] at h'
    simp only [List.cons.injEq, true_and] at h'
    rw [h']
  · rename_i h'
    exact absurd h (h' q)
theorem betw_word' (s : Bs) (h : ∀ q, s.dropWhile isBlank ≠ 45 :: 45 :: q) : betw s = s.dropWhile isBlank := by
  rw [betw]
  split
  · rename_i q hq
    exact absurd hq (h q)
  · rfl
theorem betw_blank {b : UInt8} {s : Bs} (h : isBlank b = true) : betw (b :: s) = betw s := by
  have e : (b :: s).dropWhile isBlank = s.dropWhile isBlank := by rw [List.dropWhile_cons, if_pos h]
  by_cases hq : ∃ q, s.dropWhile isBlank = 45 :: 45 :: q
  · obtain ⟨q, hq⟩ := hq
    rw [betw_line' _ q (e.trans hq), betw_line' _ q hq]
  · have hn : ∀ q, s.dropWhile isBlank ≠ 45 :: 45 :: q := fun q h => hq ⟨q, h⟩
    rw [betw_word' s hn, betw_word' _ (by rw [e]; exact hn), e]
theorem betw_rem (q : Bs) : betw (45 :: 45 :: q) = betw (q.dropWhile fun b => b != 10) := betw_line' _ q rfl
theorem betw_here {b : UInt8} {s : Bs} (h : isBlank b = false) (h2 : ∀ q, b :: s ≠ 45 :: 45 :: q) : betw (b :: s) = b :: s := by
  have e : (b :: s).dropWhile isBlank = b :: s := by rw [List.dropWhile_cons, h]; rfl
  rw [betw_word' _ (by rw [e]; exact h2), e]
theorem betw_nil' : betw [] = [] := betw_word' [] (fun q h => by simp at h)
theorem wordS_text {s : Bs} {w : Wd} (h : wordS s = some w) : w.text <+: s ∧ w.text ≠ [] := by
  cases s with
  | nil => simp [wordS] at h
  | cons c q =>
    simp only [wordS] at h
    split at h
    · rename_i hL
      have hne : (c :: q).takeWhile isNamec ≠ [] := by
        rw [List.takeWhile_cons, if_pos (by simp [isNamec, hL])]; simp
      split at h
      · simp only [Option.some.injEq] at h; subst h; exact ⟨List.takeWhile_prefix _, hne⟩
      · split at h
        · simp only [Option.some.injEq] at h; subst h; exact ⟨List.takeWhile_prefix _, hne⟩
        · simp at h
    · split at h
      · rename_i hD
        have hne : (c :: q).takeWhile isDigit ≠ [] := by
          rw [List.takeWhile_cons, if_pos hD]; simp
        split at h
        · simp only [Option.some.injEq] at h; subst h; exact ⟨List.takeWhile_prefix _, hne⟩
        · simp at h
      · split at h
        · rename_i t ht
          simp only [Option.some.injEq] at h; subst h
          have h1 := List.find?_some ht
          have h2 := List.mem_of_find?_eq_some ht
          refine ⟨List.isPrefixOf_iff_prefix.1 h1, ?_⟩
          rintro rfl
          exact absurd h2 (by decide)
        · simp at h
theorem cutS_end {n : Nat} {s : Bs} (h : betw s = []) : cutS n s = .ok [] := by
  rw [cutS]; split
  · rfl
  · rename_i h'; rw [h] at h'; simp at h'
theorem cutS_bad {n : Nat} {s q : Bs} {c : UInt8} (h : betw s = c :: q) (hw : wordS (c :: q) = none) : cutS n s = .error (n - (c :: q).length) := by
  rw [cutS]; split
  · rename_i h'; rw [h] at h'; simp at h'
  · rename_i b r h'
    rw [h] at h'
    simp only [List.cons.injEq] at h'
    obtain ⟨rfl, rfl⟩ := h'
    rw [hw]; rfl
theorem cutS_word {n : Nat} {s q : Bs} {c : UInt8} {w : Wd} (h : betw s = c :: q) (hw : wordS (c :: q) = some w) :
    cutS n s = match cutS n ((c :: q).drop w.text.length) with
      | .ok l => .ok ((n - (c :: q).length, w) :: l)
      | .error e => .error e := by
  rw [cutS]; split
  · rename_i h'; rw [h] at h'; simp at h'
  · rename_i b r h'
    rw [h] at h'
    simp only [List.cons.injEq] at h'
    obtain ⟨rfl, rfl⟩ := h'
    rw [hw]
    obtain ⟨_, hne⟩ := wordS_text hw
    have h1 : (c :: q).drop w.text.length = q.drop (w.text.length - 1) := by
      have h0 : w.text.length ≠ 0 := by simpa using hne
      obtain ⟨k, hk⟩ : ∃ k, w.text.length = k + 1 := ⟨w.text.length - 1, by omega⟩
      rw [hk]; rfl
    rw [h1]; rfl
def aheadW (ws : List (Nat × Wd)) : Except Nat (List (Nat × Wd)) → Except Nat (List (Nat × Wd))
  | .ok l => .ok (ws ++ l)
  | .error e => .error e
theorem cutS_congr {n : Nat} {s s' : Bs} (h : betw s = betw s') : cutS n s = cutS n s' := by
  cases h1 : betw s with
  | nil => rw [cutS_end h1, cutS_end (h.symm.trans h1)]
  | cons c q =>
    cases hw : wordS (c :: q) with
    | none => rw [cutS_bad h1 hw, cutS_bad (h.symm.trans h1) hw]
    | some w => rw [cutS_word h1 hw, cutS_word (h.symm.trans h1) hw]
end Go.Lex

namespace Go.Syn
open Go.Lex
structure St where
  i : Nat
  names : Int
  parts : Int
  err : Nat
  pos : Nat
  deriving DecidableEq
inductive Ex where
  | mk (op name : Bs) (n : Nat) (pos : Nat) (kids : List Ex)
def Ex.zero : Ex := .mk [] [] 0 0 []
structure Va where
  name : Bs
  kind : Nat
  on : Bs
  neg : Bool
  pos : Nat
structure Eqn where
  name : Bs
  e : Ex
  pos : Nat
structure Nd where
  name : Bs
  ins : List Va
  outs : List Va
  locals : List Va
  eqs : List Eqn
  pos : Nat
abbrev Ws := List (Nat × Wd)
abbrev P := St → Ex × St
def wrap (n : Int) : Int := (n + 9223372036854775808) % 18446744073709551616 - 9223372036854775808
section
variable (W : Ws)
def at_ (s : St) : Nat × Wd := W.getD s.i (0, ⟨0, [], 0⟩)
def kind (s : St) : Nat := (at_ W s).2.kind
def text (s : St) : Bs := (at_ W s).2.text
def fail (e : Nat) (s : St) : St := if s.err = 0 then { s with err := e, pos := (at_ W s).1 } else s
def is (s : St) (t : Bs) : Bool := s.err == 0 && ((kind W s == 2 || kind W s == 4) && text W s == t)
def one (s : St) (ts : List Bs) : Bool := ts.any (is W s)
def part (s : St) : St :=
  let s := { s with parts := wrap (s.parts + 1) }
  let s := if 300 < s.parts then fail W 2 s else s
  if s.err = 0 then { s with i := s.i + 1 } else s
def take (s : St) (t : Bs) : Bool × St := if is W s t then (true, { s with i := s.i + 1 }) else (false, s)
def want1 (s : St) (t : Bs) : St := if is W s t then { s with i := s.i + 1 } else fail W 7 s
def want (s : St) (ts : List Bs) : St := ts.foldl (want1 W) s
def name (s : St) : Bs × St :=
  let s1 := if kind W s = 1 then s else fail W 7 s
  if s1.err = 0 then (text W s1, { s1 with i := s1.i + 1 }) else ([], s1)
def deeper (last : Bool) (s : St) : Bool × St :=
  let s := if last then fail W 2 s else s
  (decide (s.err = 0), s)
def rowL (next : P) (ts : List Bs) : Nat → Ex → St → Ex × St
  | 0, e, s => (e, s)
  | k + 1, e, s => if one W s ts then
      let w := at_ W s
      let (e2, s2) := next (part W s)
      rowL next ts k (.mk w.2.text [] 0 w.1 [e, e2]) s2
    else (e, s)
def row (next : P) (ts : List Bs) (s : St) : Ex × St :=
  let (e, s) := next s
  rowL W next ts (W.length + 1) e s
def right (next : P) (t : Bs) (last : Bool) (below : P) (s : St) : Ex × St :=
  let (e, s) := next s
  if is W s t then
    let w := at_ W s
    let (b, s) := deeper W last (part W s)
    if b then
      let (e2, s) := below s
      (.mk t [] 0 w.1 [e, e2], s)
    else (e, s)
  else (e, s)
def cmp (next : P) (s : St) : Ex × St :=
  let (e, s) := next s
  if one W s [[61], [60, 62], [60], [60, 61], [62], [62, 61]] then
    let w := at_ W s
    let (e2, s) := next (part W s)
    (.mk w.2.text [] 0 w.1 [e, e2], s)
  else (e, s)
def whenL : Nat → Ex → St → Ex × St
  | 0, e, s => (e, s)
  | k + 1, e, s => if is W s [119, 104, 101, 110] then
      let w := at_ W s
      let (b, s) := take W (part W s) [110, 111, 116]
      let (nm, s) := name W s
      whenL k (.mk [119, 104, 101, 110] nm (if b then 0 else 1) w.1 [e]) s
    else (e, s)
def when_ (next : P) (s : St) : Ex × St :=
  let (e, s) := next s
  whenL W (W.length + 1) e s
def un (prim : P) (last : Bool) (below : P) (s : St) : Ex × St :=
  if one W s [[110, 111, 116], [45], [112, 114, 101]] then
    let w := at_ W s
    let op := if w.2.text = [45] then [110, 101, 103] else w.2.text
    let (b, s) := deeper W last (part W s)
    if b then
      let (e, s) := below s
      (.mk op [] 0 w.1 [e], s)
    else (.zero, s)
  else prim s
def inner (last : Bool) (below : P) (s : St) : Ex × St :=
  let (b, s) := deeper W last s
  if b then below s else (.zero, s)
def argsL (inn : P) : Nat → List Ex → St → List Ex × St
  | 0, l, s => (l, s)
  | k + 1, l, s => if is W s [44] then
      let (e, s) := inn { s with i := s.i + 1 }
      argsL inn k (l ++ [e]) s
    else (l, s)
def arguments (inn : P) (s : St) : List Ex × St :=
  if is W s [41] then ([], { s with i := s.i + 1 })
  else
    let (e, s) := inn s
    let (l, s) := argsL W inn (W.length + 1) [e] s
    (l, want1 W s [41])
def rest (inn mer : P) (w : Nat × Wd) (s : St) : Ex × St :=
  if w.2.kind = 3 then (.mk [105, 110, 116] [] w.2.n w.1 [], s)
  else if w.2.text = [116, 114, 117, 101] then (.mk [98, 111, 111, 108] [] 1 w.1 [], s)
  else if w.2.text = [102, 97, 108, 115, 101] then (.mk [98, 111, 111, 108] [] 0 w.1 [], s)
  else if w.2.kind = 1 then
    if is W s [40] then
      let (l, s) := arguments W inn { s with i := s.i + 1 }
      (.mk [99, 97, 108, 108] w.2.text 0 w.1 l, s)
    else (.mk [118, 97, 114] w.2.text 0 w.1 [], s)
  else if w.2.text = [105, 102] then
    let (a, s) := inn s
    let (b, s) := inn (want1 W s [116, 104, 101, 110])
    let (c, s) := inn (want1 W s [101, 108, 115, 101])
    (.mk w.2.text [] 0 w.1 [a, b, c], s)
  else
    let (nm, s) := name W s
    let (a, s) := mer s
    let (b, s) := mer s
    (.mk w.2.text nm 0 w.1 [a, b], s)
def prim (inn mer : P) (s : St) : Ex × St :=
  let w := at_ W s
  if s.err ≠ 0 then (.zero, s)
  else if is W s [40] then
    let (e, s) := inn { s with i := s.i + 1 }
    (e, want1 W s [41])
  else if w.2.kind = 3 ∨ w.2.kind = 1 ∨ one W s [[116, 114, 117, 101], [102, 97, 108, 115, 101], [105, 102], [109, 101, 114, 103, 101]] = true then
    rest W inn mer w (part W s)
  else (.zero, fail W 7 s)
structure Lv where
  expr : P
  fby : P
  un : P
  prim : P
def lvOf (last : Bool) (b : Lv) : Lv :=
  let prim := prim W (inner W last b.expr) (inner W last b.prim)
  let un := un W prim last b.un
  let whn := when_ W un
  let fby := right W whn [102, 98, 121] last b.fby
  let mul := row W fby [[42], [47], [109, 111, 100]]
  let add := row W mul [[43], [45]]
  let cmp := cmp W add
  let and := row W cmp [[97, 110, 100]]
  let or := row W and [[111, 114], [120, 111, 114]]
  let expr := right W or [45, 62] last b.expr
  ⟨expr, fby, un, prim⟩
def lv : Nat → Lv
  | 0 => lvOf W true ⟨fun s => (.zero, s), fun s => (.zero, s), fun s => (.zero, s), fun s => (.zero, s)⟩
  | d + 1 => lvOf W false (lv d)
def declared (s : St) : Va × St :=
  let w := at_ W s
  let s := if w.2.kind = 1 then
      let s := { s with names := wrap (s.names + 1) }
      if 64 < s.names then fail W 2 s else s
    else s
  let (nm, s) := name W s
  (⟨nm, 0, [], false, w.1⟩, s)
def declL : Nat → List Va → St → List Va × St
  | 0, l, s => (l, s)
  | k + 1, l, s => if is W s [44] then
      let (v, s) := declared W { s with i := s.i + 1 }
      declL k (l ++ [v]) s
    else (l, s)
def decl (s : St) : List Va × St :=
  let (v, s) := declared W s
  let (l, s) := declL W (W.length + 1) [v] s
  let s := want1 W s [58]
  if is W s [98, 111, 111, 108] then (l.map fun v => { v with kind := 1 }, { s with i := s.i + 1 })
  else if is W s [105, 110, 116] then (l.map fun v => { v with kind := 2 }, { s with i := s.i + 1 })
  else (l.map fun v => { v with kind := 0 }, fail W 7 s)
def declsL : Nat → List Va → St → List Va × St
  | 0, l, s => (l, s)
  | k + 1, l, s => if is W s [59] then
      let (m, s) := decl W { s with i := s.i + 1 }
      declsL k (l ++ m) s
    else (l, s)
def decls (s : St) : List Va × St :=
  if kind W s ≠ 1 then ([], s) else
    let (l, s) := decl W s
    declsL W (W.length + 1) l s
def local_ (s : St) : List Va × St :=
  let (l, s) := decl W s
  if is W s [119, 104, 101, 110] then
    let (b, s) := take W { s with i := s.i + 1 } [110, 111, 116]
    let (nm, s) := name W s
    (l.map fun v => { v with on := nm, neg := b }, s)
  else (l, s)
def localsL : Nat → List Va → St → List Va × St
  | 0, l, s => (l, s)
  | k + 1, l, s => if s.err = 0 ∧ kind W s = 1 then
      let (m, s) := local_ W s
      localsL k (l ++ m) (want1 W s [59])
    else (l, s)
def locals_ (s : St) : List Va × St :=
  let (l, s) := if kind W s = 1 then local_ W s else ([], s)
  localsL W (W.length + 1) l (want1 W s [59])
def eqsL : Nat → List Eqn → St → List Eqn × St
  | 0, l, s => (l, s)
  | k + 1, l, s => if s.err = 0 ∧ kind W s = 1 then
      let w := at_ W s
      let (nm, s) := name W s
      let s := { want1 W s [61] with parts := 0 }
      let (e, s) := if s.err = 0 then (lv W 29).expr s else (.zero, s)
      eqsL k (l ++ [⟨nm, e, w.1⟩]) (want1 W s [59])
    else (l, s)
def node (s : St) : Nd × St :=
  let w := at_ W s
  let s := want1 W { s with names := 0 } [110, 111, 100, 101]
  let (nm, s) := name W s
  let (ins, s) := decls W (want1 W s [40])
  let (outs, s) := decls W (want W s [[41], [114, 101, 116, 117, 114, 110, 115], [40]])
  let s := want W s [[41], [59]]
  let (b, s) := take W s [118, 97, 114]
  let (locs, s) := if b then locals_ W s else ([], s)
  let (eqs, s) := eqsL W (W.length + 1) [] (want1 W s [108, 101, 116])
  let (_, s) := take W (want1 W s [116, 101, 108]) [59]
  (⟨nm, ins, outs, locs, eqs, w.1⟩, s)
def nodesL : Nat → List Nd → St → List Nd × St
  | 0, l, s => (l, s)
  | k + 1, l, s => if s.err = 0 ∧ (l = [] ∨ kind W s ≠ 0) then
      if l.length = 32 then (l, fail W 2 s)
      else
        let (n, s) := node W s
        nodesL k (l ++ [n]) s
    else (l, s)
end
def parse (t : Bs) : Except (Nat × Nat) (List Nd) :=
  if 16384 < t.length then .error (2, t.length)
  else match cutS t.length t with
    | .error e => .error (7, e)
    | .ok l =>
      let W := l ++ [(t.length, ⟨0, [], 0⟩)]
      let (ns, s) := nodesL W 33 [] ⟨0, 0, 0, 0, 0⟩
      if s.err = 0 then .ok ns else .error (s.err, s.pos)
end Go.Syn

namespace Go.Abs
open Go
mutual
inductive ResV (get : Nat → Option AObj) (n : Nat) : AV → AV → Prop
  | old {v : AV} (h : v.idLt n = true) : ResV get n v v
  | ptr {i o : Nat} {cs r : List AV} (hn : n ≤ i) (hi : get i = some (.cells cs)) (h : ResL get n (cs.drop o) r) : ResV get n (.ptr i o) (.vptr r)
  | sl {i o z len cap : Nat} {opn : Bool} {cs r : List AV} (hn : n ≤ i) (hi : get i = some (.cells cs)) (h : ResL get n ((cs.drop o).take (len * z)) r) : ResV get n (.sl i o z len cap opn) (.vsl r len)
  | vptr {cs r : List AV} (h : ResL get n cs r) : ResV get n (.vptr cs) (.vptr r)
  | vsl {cs r : List AV} {len : Nat} (h : ResL get n cs r) : ResV get n (.vsl cs len) (.vsl r len)
  | agg {cs r : List AV} (h : ResL get n cs r) : ResV get n (.agg cs) (.agg r)
  | tuple {cs r : List AV} (h : ResL get n cs r) : ResV get n (.tuple cs) (.tuple r)
inductive ResL (get : Nat → Option AObj) (n : Nat) : List AV → List AV → Prop
  | nil : ResL get n [] []
  | cons {a b : AV} {as_ bs : List AV} (h : ResV get n a b) (t : ResL get n as_ bs) : ResL get n (a :: as_) (b :: bs)
end
mutual
theorem ResV.mono {g g' : Nat → Option AObj} {n : Nat} (hg : ∀ i cs, n ≤ i → g i = some (.cells cs) → g' i = some (.cells cs)) : ∀ {v r : AV}, ResV g n v r → ResV g' n v r
  | _, _, .old h => .old h
  | _, _, .ptr hn hi h => .ptr hn (hg _ _ hn hi) (ResL.mono hg h)
  | _, _, .sl hn hi h => .sl hn (hg _ _ hn hi) (ResL.mono hg h)
  | _, _, .vptr h => .vptr (ResL.mono hg h)
  | _, _, .vsl h => .vsl (ResL.mono hg h)
  | _, _, .agg h => .agg (ResL.mono hg h)
  | _, _, .tuple h => .tuple (ResL.mono hg h)
theorem ResL.mono {g g' : Nat → Option AObj} {n : Nat} (hg : ∀ i cs, n ≤ i → g i = some (.cells cs) → g' i = some (.cells cs)) : ∀ {v r : List AV}, ResL g n v r → ResL g' n v r
  | _, _, .nil => .nil
  | _, _, .cons h t => .cons (ResV.mono hg h) (ResL.mono hg t)
end
theorem ResL.old {g : Nat → Option AObj} {n : Nat} : ∀ {l : List AV}, AV.allLt n l = true → ResL g n l l
  | [], _ => .nil
  | a :: l, h => by
    simp only [AV.allLt, Bool.and_eq_true] at h
    exact .cons (.old h.1) (ResL.old h.2)
theorem ResL.append {g : Nat → Option AObj} {n : Nat} : ∀ {a b c d : List AV}, ResL g n a b → ResL g n c d → ResL g n (a ++ c) (b ++ d)
  | _, _, _, _, .nil, h => h
  | _, _, _, _, .cons h t, k => .cons h (ResL.append t k)
mutual
theorem ResV.down {g : Nat → Option AObj} {n m : Nat} (hm : m ≤ n) : ∀ {v r : AV}, ResV g n v r → r.idLt m = true → ResV g m v r
  | _, _, .old _, hr => .old hr
  | _, _, .ptr hn hi h, hr => .ptr (Nat.le_trans hm hn) hi (ResL.down hm h (by simpa [AV.idLt] using hr))
  | _, _, .sl hn hi h, hr => .sl (Nat.le_trans hm hn) hi (ResL.down hm h (by simpa [AV.idLt] using hr))
  | _, _, .vptr h, hr => .vptr (ResL.down hm h (by simpa [AV.idLt] using hr))
  | _, _, .vsl h, hr => .vsl (ResL.down hm h (by simpa [AV.idLt] using hr))
  | _, _, .agg h, hr => .agg (ResL.down hm h (by simpa [AV.idLt] using hr))
  | _, _, .tuple h, hr => .tuple (ResL.down hm h (by simpa [AV.idLt] using hr))
theorem ResL.down {g : Nat → Option AObj} {n m : Nat} (hm : m ≤ n) : ∀ {v r : List AV}, ResL g n v r → AV.allLt m r = true → ResL g m v r
  | _, _, .nil, _ => .nil
  | _, _, .cons h t, hr => by
    simp only [AV.allLt, Bool.and_eq_true] at hr
    exact .cons (ResV.down hm h hr.1) (ResL.down hm t hr.2)
end
noncomputable def Env.from_ (E : Env) (H : AHeap) (w : World) (n : Nat) : Env := { φ := fun i => if i < n then E.φ i else none, F := E.F, os := E.os, out := E.out, K := fun B => match E.K B with
  | some o => some o
  | none => match E.F B with
    | some _ => none
    | none => by
      classical
      exact if (∃ i x p, i < n ∧ H.get i = some x ∧ E.φ i = some p ∧ p.b = B) then none else w.heap[B]? }
section
variable {E : Env} {H : AHeap} {w : World} {n : Nat}
theorem from_K {B : Nat} {o : Obj} (h : E.K B = some o) : (E.from_ H w n).K B = some o := by
  show (match E.K B with | some o => some o | none => _) = some o
  rw [h]
theorem from_live (hR : Rel E H w) {i : Nat} {x : AObj} {p : Place} (hi : i < n) (hx : H.get i = some x) (hp : E.φ i = some p) : (E.from_ H w n).K p.b = none := by
  obtain ⟨q, ob, h1, h2, h3, h4, h5⟩ := hR.live i x hx
  rw [hp] at h1; cases h1
  show (match E.K p.b with | some o => some o | none => _) = none
  rw [h2]
  show (match E.F p.b with | some _ => none | none => _) = none
  rw [h3]
  exact if_pos ⟨i, x, p, hi, hx, hp, rfl⟩
theorem from_new (hR : Rel E H w) {i : Nat} {x : AObj} {p : Place} (hi : n ≤ i) (hx : H.get i = some x) (hp : E.φ i = some p) : (E.from_ H w n).K p.b = w.heap[p.b]? := by
  obtain ⟨q, ob, h1, h2, h3, h4, h5⟩ := hR.live i x hx
  rw [hp] at h1; cases h1
  show (match E.K p.b with | some o => some o | none => _) = w.heap[p.b]?
  rw [h2]
  show (match E.F p.b with | some _ => none | none => _) = w.heap[p.b]?
  rw [h3]
  refine if_neg ?_
  rintro ⟨j, y, q, hj, hy, hq, e⟩
  have := hR.inj j i y x q p hy hx hq hp e
  omega
theorem from_knows : Knows (E.cut n) (E.from_ H w n) := ⟨fun _ _ h => h, fun _ _ h => from_K h⟩
theorem from_ink (hR : Rel E H w) {i : Nat} {cs : List AV} {p : Place} (hn : n ≤ i) (hi : H.get i = some (.cells cs)) (hp : E.φ i = some p) (o : Nat) :
    ∃ vs, InK (E.from_ H w n) p.b (p.s + o) vs ∧ VRels E (cs.drop o) vs := by
  have hK := from_new (n := n) hR hn hi hp
  obtain ⟨q, ob, h1, h2, h3, h4, c, e, fz, vs, rfl, _, h6, h7, _⟩ := hR.live i _ hi
  rw [hp] at h1; cases h1
  refine ⟨vs.drop o, .inr ⟨c, e, fz, hK.trans h4, ?_⟩, h6.drop o⟩
  obtain ⟨t, ht⟩ := h7
  rw [← List.drop_drop, ← ht]
  by_cases ho : o ≤ vs.length
  · rw [List.drop_append_of_le_length ho]; exact List.prefix_append _ _
  · rw [List.drop_of_length_le (by omega)]; exact List.nil_prefix
theorem InK.from_ {B o : Nat} {vs : List Value} (h : InK E B o vs) : InK (E.from_ H w n) B o vs := by
  rcases h with h | ⟨c, e, f, h1, h2⟩
  · exact .inl h
  · exact .inr ⟨c, e, f, from_K h1, h2⟩
mutual
theorem VRel.resV (hR : Rel E H w) : ∀ {v r : AV} {u : Value}, ResV H.get n v r → VRel E v u → VRel (E.from_ H w n) r u
  | _, _, _, .old h, hv => (VRel.cut hv h).mono from_knows
  | _, _, _, .ptr hn hi h, hv => by
    cases hv with
    | ptr hp =>
      obtain ⟨vs, h1, h2⟩ := from_ink hR hn hi hp _
      exact .vptr h1 (VRels.resL hR h h2)
  | _, _, _, .sl (len := len) (z := z) hn hi h, hv => by
    cases hv with
    | sl hp hl hc ho hm =>
      obtain ⟨vs, h1, h2⟩ := from_ink hR hn hi hp _
      refine .vsl (vs := vs.take (len * z)) ?_ (VRels.resL hR h (h2.take _)) (Nat.le_trans hl hc)
      rcases h1 with h1 | ⟨c, e, f, g1, g2⟩
      · left; rw [h1]; simp
      · exact .inr ⟨c, e, f, g1, (List.take_prefix _ _).trans g2⟩
  | _, _, _, .vptr h, hv => by
    cases hv with
    | vptr hK hv => exact .vptr hK.from_ (VRels.resL hR h hv)
  | _, _, _, .vsl h, hv => by
    cases hv with
    | vsl hK hv hl => exact .vsl hK.from_ (VRels.resL hR h hv) hl
    | vsl0 => cases h; exact .vsl0
  | _, _, _, .agg h, hv => by
    cases hv with
    | agg hv => exact .agg (VRels.resL hR h hv)
  | _, _, _, .tuple h, hv => by
    cases hv with
    | tuple hv => exact .tuple (VRels.resL hR h hv)
theorem VRels.resL (hR : Rel E H w) : ∀ {v r : List AV} {u : List Value}, ResL H.get n v r → VRels E v u → VRels (E.from_ H w n) r u
  | _, _, _, .nil, hv => by cases hv; exact .nil
  | _, _, _, .cons h t, hv => by
    cases hv with
    | cons hv ht => exact .cons (VRel.resV hR h hv) (VRels.resL hR t ht)
end
end
theorem Ghost.deep {n : Nat} {v r : AV} {H H2 : AHeap} (hv : ResV H.get n v r) (hn : H2.next = n) (hs : ∀ i x, H2.get i = some x → H.get i = some x ∧ i < n ∧ AV.allLt n x.cellsList = true) : Ghost n v H r H2 := fun E0 E w u hd hx hu hR => by
  subst hn
  have hgc := hR.gc hs
  refine ⟨E.from_ H w H2.next, ⟨fun i p hp => ?_, fun B o hB => from_K (hx.K B o hB), hx.F, hx.os, hx.out⟩, VRel.resV hR hv hu, ?_⟩
  · show (if i < H2.next then E.φ i else none) = some p
    rw [if_pos (hd i p hp)]; exact hx.φ i p hp
  · refine ⟨hR.os, hR.out, fun B o hB => ?_, hR.F, fun B => ?_, hgc.dom, fun i x hi => ?_, hgc.inj⟩
    · have hB : (match E.K B with | some o => some o | none => _) = some o := hB
      split at hB
      · rename_i o' ho'
        simp only [Option.some.injEq] at hB; subst hB
        exact hR.K B _ ho'
      · split at hB
        · simp at hB
        · split at hB
          · simp at hB
          · exact hB
    · cases hF : E.F B with
      | none => exact .inr hF
      | some o =>
        left
        have hK : E.K B = none := by
          rcases hR.KF B with e | e
          · exact e
          · rw [hF] at e; simp at e
        show (match E.K B with | some o => some o | none => _) = none
        rw [hK]
        show (match E.F B with | some _ => none | none => _) = none
        rw [hF]
    · obtain ⟨p, ob, h1, h2, h3, h4, h5⟩ := hgc.live i x hi
      obtain ⟨g1, g2, _⟩ := hs i x hi
      have hp : E.φ i = some p := by
        have h1 : (if i < H2.next then E.φ i else none) = some p := h1
        rw [if_pos g2] at h1; exact h1
      exact ⟨p, ob, h1, from_live hR g2 g1 hp, h3, h4, h5.mono from_knows⟩
theorem Does.deep {P : Program} {G : Nat → Option AV} {f : FuncId} {args : List AV} {H : AHeap} {R R' : AV → AHeap → Prop} (h : Does P G f args H R)
    (hg : H.Wf → AV.allLt H.next args = true → ∀ r H1, R r H1 → ∃ r' H2, ResV H1.get H.next r r' ∧ H2.next = H.next ∧ (∀ i x, H2.get i = some x → H1.get i = some x ∧ i < H.next ∧ AV.allLt H.next x.cellsList = true) ∧ R' r' H2) : Does P G f args H R' :=
  Does.wfs fun hw ha => h.ghost fun r H1 hr => by
    obtain ⟨r', H2, h1, h2, h3, h4⟩ := hg hw ha r H1 hr
    exact ⟨r', H2, Ghost.deep h1 h2 h3, h4⟩
end Go.Abs

namespace Go.Abs
open Go
def ASr (X : Ctx) (ops : Array Oper) (K : List Nat → (Nat → AV) → Prop) : List Oper → List Nat → (Nat → AV) → AHeap → Prop
  | [], cs, T, _ => K cs T
  | o :: r, cs, T, H =>
    @condA (awanted ops T o)
      ⟨fun _ => @altO _ (acallee (aval X.G T) o) ⟨fun fa => ∃ x, Does X.P X.G fa.1 fa.2 H (fun y h => y = x ∧ h = H) ∧ ASr X ops K r (3 :: cs) (tput T o.dst x) H⟩
        ⟨@altO _ (apure X.P (aval X.G T) o) ⟨fun v => ASr X ops K r (0 :: cs) (tput T o.dst v) H⟩
          ⟨@altO _ (aread X.P (aval X.G T) H.get o) ⟨fun v => ASr X ops K r (1 :: cs) (tput T o.dst v) H⟩ ⟨False⟩⟩⟩⟩
      ⟨fun _ => ASr X ops K r (0 :: cs) (tput T o.dst undefA) H⟩
def ASf [X : Hid Ctx] [ops : Hid (Array Oper)] [K : Hid (List Nat → (Nat → AV) → Prop)] [l : Hid (List Oper)] [cs : Hid (List Nat)] [T : Hid (Nat → AV)] (H : AHeap) : Prop := ASr X.v ops.v K.v l.v cs.v T.v H
def ASs [X : Hid Ctx] [ops : Hid (Array Oper)] [K : Hid (List Nat → (Nat → AV) → Prop)] [l : Hid (List Oper)] [cs : Hid (List Nat)] [T : Hid (Nat → AV)] (H : AHeap) : Prop := ASr X.v ops.v K.v l.v cs.v T.v H
section
variable {X : Ctx} {T : Nat → AV} {H : AHeap} {ops : Array Oper} {K : List Nat → (Nat → AV) → Prop} {cs : List Nat}
@[simp] theorem asf_list {l : List Oper} : @ASf ⟨X⟩ ⟨ops⟩ ⟨K⟩ ⟨l.toArray.toList⟩ ⟨cs⟩ ⟨T⟩ H = @ASf ⟨X⟩ ⟨ops⟩ ⟨K⟩ ⟨l⟩ ⟨cs⟩ ⟨T⟩ H := Eq.trans rfl rfl
@[simp] theorem asf_nil : @ASf ⟨X⟩ ⟨ops⟩ ⟨K⟩ ⟨[]⟩ ⟨cs⟩ ⟨T⟩ H = K cs T := Eq.trans rfl rfl
@[simp] theorem asf_cons {o : Oper} {r : List Oper} : @ASf ⟨X⟩ ⟨ops⟩ ⟨K⟩ ⟨o :: r⟩ ⟨cs⟩ ⟨T⟩ H =
    @condA (awanted ops T o)
      ⟨fun _ => @altO _ (acallee (aval X.G T) o) ⟨fun fa => ∃ x, Does X.P X.G fa.1 fa.2 H (fun y h => y = x ∧ h = H) ∧ @ASs ⟨X⟩ ⟨ops⟩ ⟨K⟩ ⟨r⟩ ⟨3 :: cs⟩ ⟨tput T o.dst x⟩ H⟩
        ⟨@altO _ (apure X.P (aval X.G T) o) ⟨fun v => @ASf ⟨X⟩ ⟨ops⟩ ⟨K⟩ ⟨r⟩ ⟨0 :: cs⟩ ⟨tput T o.dst v⟩ H⟩
          ⟨@altO _ (aread X.P (aval X.G T) H.get o) ⟨fun v => @ASf ⟨X⟩ ⟨ops⟩ ⟨K⟩ ⟨r⟩ ⟨1 :: cs⟩ ⟨tput T o.dst v⟩ H⟩ ⟨False⟩⟩⟩⟩
      ⟨fun _ => @ASf ⟨X⟩ ⟨ops⟩ ⟨K⟩ ⟨r⟩ ⟨0 :: cs⟩ ⟨tput T o.dst undefA⟩ H⟩ := Eq.trans rfl rfl
@[simp] theorem asf_take_cons {n : Nat} {o : Oper} {r : List Oper} : @ASf ⟨X⟩ ⟨ops⟩ ⟨K⟩ ⟨List.take (n + 1) (o :: r)⟩ ⟨cs⟩ ⟨T⟩ H =
    @condA (awanted ops T o)
      ⟨fun _ => @altO _ (acallee (aval X.G T) o) ⟨fun fa => ∃ x, Does X.P X.G fa.1 fa.2 H (fun y h => y = x ∧ h = H) ∧ @ASs ⟨X⟩ ⟨ops⟩ ⟨K⟩ ⟨List.take n r⟩ ⟨3 :: cs⟩ ⟨tput T o.dst x⟩ H⟩
        ⟨@altO _ (apure X.P (aval X.G T) o) ⟨fun v => @ASf ⟨X⟩ ⟨ops⟩ ⟨K⟩ ⟨List.take n r⟩ ⟨0 :: cs⟩ ⟨tput T o.dst v⟩ H⟩
          ⟨@altO _ (aread X.P (aval X.G T) H.get o) ⟨fun v => @ASf ⟨X⟩ ⟨ops⟩ ⟨K⟩ ⟨List.take n r⟩ ⟨1 :: cs⟩ ⟨tput T o.dst v⟩ H⟩ ⟨False⟩⟩⟩⟩
      ⟨fun _ => @ASf ⟨X⟩ ⟨ops⟩ ⟨K⟩ ⟨List.take n r⟩ ⟨0 :: cs⟩ ⟨tput T o.dst undefA⟩ H⟩ := Eq.trans rfl rfl
@[simp] theorem asf_take_zero {l : List Oper} : @ASf ⟨X⟩ ⟨ops⟩ ⟨K⟩ ⟨List.take 0 l⟩ ⟨cs⟩ ⟨T⟩ H = K cs T := Eq.trans rfl rfl
@[simp] theorem asf_drop_cons {n : Nat} {o : Oper} {r : List Oper} : @ASf ⟨X⟩ ⟨ops⟩ ⟨K⟩ ⟨List.drop (n + 1) (o :: r)⟩ ⟨cs⟩ ⟨T⟩ H = @ASf ⟨X⟩ ⟨ops⟩ ⟨K⟩ ⟨List.drop n r⟩ ⟨cs⟩ ⟨T⟩ H := Eq.trans rfl rfl
@[simp] theorem asf_drop_zero {l : List Oper} : @ASf ⟨X⟩ ⟨ops⟩ ⟨K⟩ ⟨List.drop 0 l⟩ ⟨cs⟩ ⟨T⟩ H = @ASf ⟨X⟩ ⟨ops⟩ ⟨K⟩ ⟨l⟩ ⟨cs⟩ ⟨T⟩ H := Eq.trans rfl rfl
end
end Go.Abs

namespace Go.Lex
def betwF : Nat → Bs → Bs
  | 0, s => s
  | k + 1, s => match s.dropWhile isBlank with
    | a :: b :: q => if a = 45 ∧ b = 45 then betwF k (q.dropWhile fun b => b != 10) else a :: b :: q
    | r => r
theorem betwF_eq : ∀ (k : Nat) (s : Bs), s.length ≤ k → betwF k s = betw s
  | 0, s, h => by
    have : s = [] := List.eq_nil_of_length_eq_zero (by omega)
    subst this
    rw [betw_nil']; rfl
  | k + 1, s, h => by
    have hl := dropWhile_le isBlank s
    rw [betwF]
    split
    · rename_i a b q hq
      split
      · rename_i hab
        obtain ⟨rfl, rfl⟩ := hab
        rw [betw_line' s q hq]
        refine betwF_eq k _ ?_
        have h2 := dropWhile_le (fun b : UInt8 => b != 10) q
        rw [hq] at hl
        simp only [List.length_cons] at hl
        omega
      · rename_i hab
        rw [betw_word' s (fun q' h' => hab (by rw [hq] at h'; simp only [List.cons.injEq] at h'; exact ⟨h'.1, h'.2.1⟩)), hq]
    · rename_i hne
      rw [betw_word' s fun q h' => hne _ _ _ h']
def cutF : Nat → Nat → Bs → Except Nat (List (Nat × Wd))
  | 0, _, _ => .ok []
  | k + 1, n, s => match betwF s.length s with
    | [] => .ok []
    | c :: q => match wordS (c :: q) with
      | none => .error (n - (c :: q).length)
      | some w => match cutF k n ((c :: q).drop w.text.length) with
        | .ok l => .ok ((n - (c :: q).length, w) :: l)
        | .error e => .error e
theorem betw_le (s : Bs) : (betw s).length ≤ s.length := by
  rw [← betwF_eq s.length s (Nat.le_refl _)]
  have key : ∀ (k : Nat) (s : Bs), (betwF k s).length ≤ s.length := by
    intro k
    induction k with
    | zero => intro s; exact Nat.le_refl _
    | succ k ih =>
      intro s
      have hl := dropWhile_le isBlank s
      rw [betwF]
      split
      · rename_i a b q hq
        rw [hq] at hl
        split
        · have h1 := ih (q.dropWhile fun b => b != 10)
          have h2 := dropWhile_le (fun b : UInt8 => b != 10) q
          simp only [List.length_cons] at hl
          omega
        · exact hl
      · exact hl
  exact key _ _
end Go.Lex

namespace Go.Lex
theorem takeStop (p : UInt8 → Bool) : ∀ (a : Bs) (c : UInt8) (r : Bs), (∀ b ∈ a, p b = true) → p c = false → (a ++ c :: r).takeWhile p = a
  | [], c, r, _, hc => by simp [hc]
  | b :: a, c, r, ha, hc => by
    rw [List.cons_append, List.takeWhile_cons, if_pos (ha b (by simp)), takeStop p a c r (fun x hx => ha x (by simp [hx])) hc]
theorem takeWhile_mem (p : UInt8 → Bool) : ∀ (s : Bs) (b : UInt8), b ∈ s.takeWhile p → p b = true
  | [], b, h => by simp at h
  | a :: s, b, h => by
    rw [List.takeWhile_cons] at h
    split at h
    · simp only [List.mem_cons] at h
      rcases h with rfl | h
      · assumption
      · exact takeWhile_mem p s b h
    · simp at h
theorem blank_cases {b : UInt8} (h : isBlank b = true) : b = 32 ∨ b = 9 ∨ b = 10 ∨ b = 13 := by
  simp only [isBlank, Bool.or_eq_true, beq_iff_eq] at h
  rcases h with ((h | h) | h) | h <;> simp [h]
def Wok (w : Wd) : Prop := ∃ s, wordS s = some w
theorem word_blank {w : Wd} (hw : Wok w) {b : UInt8} (hb : isBlank b = true) (r : Bs) : wordS (w.text ++ b :: r) = some w ∧ betw (w.text ++ b :: r) = w.text ++ b :: r ∧ w.text ≠ [] := by
  obtain ⟨s, h⟩ := hw
  have hN : isNamec b = false := by rcases blank_cases hb with rfl | rfl | rfl | rfl <;> decide
  have hD : isDigit b = false := by rcases blank_cases hb with rfl | rfl | rfl | rfl <;> decide
  cases s with
  | nil => simp [wordS] at h
  | cons c q =>
    have key : ∀ t : Bs, (∃ q', t = c :: q') → isBlank c = false → c ≠ 45 → betw (t ++ b :: r) = t ++ b :: r := by
      rintro _ ⟨q', rfl⟩ h1 h2
      rw [List.cons_append]
      refine betw_here h1 fun x hx => ?_
      simp only [List.cons.injEq] at hx
      exact h2 hx.1
    have hch : ∀ n : Fin 256, (isLetter (UInt8.ofNat n.val) = true ∨ isDigit (UInt8.ofNat n.val) = true) → isBlank (UInt8.ofNat n.val) = false ∧ UInt8.ofNat n.val ≠ 45 := by decide +kernel
    have hch' : (isLetter c = true ∨ isDigit c = true) → isBlank c = false ∧ c ≠ 45 := by
      have := hch ⟨c.toNat, c.toNat_lt⟩
      simpa using this
    simp only [wordS] at h
    split at h
    · rename_i hL
      obtain ⟨t, ht⟩ : ∃ t, t = (c :: q).takeWhile isNamec := ⟨_, rfl⟩
      have htc : ∃ q', t = c :: q' := by rw [ht, List.takeWhile_cons, if_pos (by simp [isNamec, hL])]; exact ⟨_, rfl⟩
      have htn : (t ++ b :: r).takeWhile isNamec = t := takeStop _ _ _ _ (fun x hx => takeWhile_mem _ (c :: q) x (by rw [← ht]; exact hx)) hN
      rw [← ht] at h
      have hwt : w.text = t ∧ wordS (t ++ b :: r) = some w := by
        obtain ⟨q', rfl⟩ := htc
        rw [List.cons_append] at htn ⊢
        simp only [wordS, hL, if_true, htn]
        split at h
        · rename_i hk
          simp only [Option.some.injEq] at h; subst h
          simp [hk]
        · rename_i hk
          split at h
          · rename_i hk2
            simp only [Option.some.injEq] at h; subst h
            simp [hk]
            simpa using hk2
          · simp at h
      rw [hwt.1]
      exact ⟨hwt.2, key t htc (hch' (.inl hL)).1 (hch' (.inl hL)).2, by obtain ⟨q', rfl⟩ := htc; simp⟩
    · rename_i hL
      split at h
      · rename_i hDc
        obtain ⟨t, ht⟩ : ∃ t, t = (c :: q).takeWhile isDigit := ⟨_, rfl⟩
        have htc : ∃ q', t = c :: q' := by rw [ht, List.takeWhile_cons, if_pos hDc]; exact ⟨_, rfl⟩
        have htn : (t ++ b :: r).takeWhile isDigit = t := takeStop _ _ _ _ (fun x hx => takeWhile_mem _ (c :: q) x (by rw [← ht]; exact hx)) hD
        rw [← ht] at h
        have hwt : w.text = t ∧ wordS (t ++ b :: r) = some w := by
          obtain ⟨q', rfl⟩ := htc
          rw [List.cons_append] at htn ⊢
          simp only [wordS, hL, hDc, if_true, htn, Bool.false_eq_true, if_false]
          split at h
          · rename_i hk
            simp only [Option.some.injEq] at h; subst h
            rw [if_pos hk]
            exact ⟨rfl, rfl⟩
          · simp at h
        rw [hwt.1]
        exact ⟨hwt.2, key t htc (hch' (.inr hDc)).1 (hch' (.inr hDc)).2, by obtain ⟨q', rfl⟩ := htc; simp⟩
      · split at h
        · rename_i t ht
          simp only [Option.some.injEq] at h; subst h
          have hm := List.mem_of_find?_eq_some ht
          simp only [signs, List.mem_cons, List.not_mem_nil, or_false] at hm
          rcases hm with rfl | rfl | rfl | rfl | rfl | rfl | rfl | rfl | rfl | rfl | rfl | rfl | rfl | rfl | rfl | rfl <;>
            (refine ⟨?_, betw_here (by decide) (by rcases blank_cases hb with rfl | rfl | rfl | rfl <;> simp), by simp⟩
             rcases blank_cases hb with rfl | rfl | rfl | rfl <;> rfl)
        · simp at h
theorem cut_words {n : Nat} : ∀ (k : Nat) (s : Bs), s.length < k → ∀ l, cutS n s = .ok l → (∀ w ∈ l, Wok w.2) ∧ l.length + (l.map fun w => w.2.text.length).sum ≤ 2 * s.length ∧ (l.map fun w => w.2.text.length).sum ≤ s.length
  | 0, s, h, _, _ => by omega
  | k + 1, s, hk, l, h => by
    cases h1 : betw s with
    | nil => rw [cutS_end h1] at h; simp only [Except.ok.injEq] at h; subst h; simp
    | cons c q =>
      cases hw : wordS (c :: q) with
      | none => rw [cutS_bad h1 hw] at h; simp at h
      | some w =>
        rw [cutS_word h1 hw] at h
        have hle : (c :: q).length ≤ s.length := by rw [← h1]; exact betw_le s
        obtain ⟨⟨r, hr⟩, hne⟩ := wordS_text hw
        have h0 : w.text.length ≠ 0 := by simpa using hne
        have hlen : w.text.length + r.length = (c :: q).length := by rw [← hr]; simp
        have hd : (c :: q).drop w.text.length = r := by rw [← hr]; exact List.drop_left
        rw [hd] at h
        split at h
        · rename_i l' hl'
          simp only [Except.ok.injEq] at h; subst h
          obtain ⟨a1, a2, a3⟩ := cut_words k r (by omega) l' hl'
          refine ⟨?_, ?_, ?_⟩
          · intro x hx
            simp only [List.mem_cons] at hx
            rcases hx with rfl | hx
            · exact ⟨_, hw⟩
            · exact a1 x hx
          · simp only [List.length_cons, List.map_cons, List.sum_cons]; simp only [List.length_cons] at hlen hle; omega
          · simp only [List.map_cons, List.sum_cons]; simp only [List.length_cons] at hlen hle; omega
        · simp at h
end Go.Lex

namespace Go.Lex
theorem cut_blank {n : Nat} {b : UInt8} {s : Bs} (h : isBlank b = true) : cutS n (b :: s) = cutS n s := cutS_congr (betw_blank h)
end Go.Lex

namespace Go.Lex
set_option linter.unusedSimpArgs false
set_option maxRecDepth 100000
def Cuts (n : Nat) (s : Bs) (L : List Wd) : Prop := ∃ l, cutS n s = .ok l ∧ l.map (·.2) = L
theorem Cuts.blank {n : Nat} {s : Bs} {L : List Wd} (h : Cuts n s L) : Cuts n (32 :: s) L := by
  obtain ⟨l, h1, h2⟩ := h
  exact ⟨l, (cut_blank rfl).trans h1, h2⟩
theorem Cuts.word {n : Nat} {c : UInt8} {q r : Bs} {w : Wd} {L : List Wd} (hb : isBlank c = false) (h2 : ∀ q', c :: q ≠ 45 :: 45 :: q') (hw : wordS (c :: q) = some w) (hd : (c :: q).drop w.text.length = r) (h : Cuts n r L) : Cuts n (c :: q) (w :: L) := by
  obtain ⟨l, h3, h4⟩ := h
  exact ⟨(n - (c :: q).length, w) :: l, by rw [cutS_word (betw_here hb h2) hw, hd, h3], by simp [h4]⟩
theorem Cuts.nil {n : Nat} : Cuts n [] [] := ⟨[], cutS_end (by simp [betw_nil']), rfl⟩
end Go.Lex
namespace Go.Syn
open Go.Lex
set_option maxRecDepth 100000
end Go.Syn

namespace Go.Syn
open Go.Lex
set_option linter.unusedVariables false
def sgl : List UInt8 := [40, 41, 44, 58, 59, 61]
theorem word_sign {w : Wd} (hw : Wok w) (hk4 : w.kind ≠ 4) {b : UInt8} (hN : isNamec b = false) (r : Bs) : wordS (w.text ++ b :: r) = some w ∧ betw (w.text ++ b :: r) = w.text ++ b :: r ∧ w.text ≠ [] := by
  obtain ⟨s, h⟩ := hw
  have hD : isDigit b = false := by
    simp only [isNamec, Bool.or_eq_false_iff] at hN
    exact hN.1.2
  cases s with
  | nil => simp [wordS] at h
  | cons c q =>
    have key : ∀ t : Bs, (∃ q', t = c :: q') → isBlank c = false → c ≠ 45 → betw (t ++ b :: r) = t ++ b :: r := by
      rintro _ ⟨q', rfl⟩ h1 h2
      rw [List.cons_append]
      refine betw_here h1 fun x hx => ?_
      simp only [List.cons.injEq] at hx
      exact h2 hx.1
    have hch : ∀ n : Fin 256, (isLetter (UInt8.ofNat n.val) = true ∨ isDigit (UInt8.ofNat n.val) = true) → isBlank (UInt8.ofNat n.val) = false ∧ UInt8.ofNat n.val ≠ 45 := by decide +kernel
    have hch' : (isLetter c = true ∨ isDigit c = true) → isBlank c = false ∧ c ≠ 45 := by
      have := hch ⟨c.toNat, c.toNat_lt⟩
      simpa using this
    simp only [wordS] at h
    split at h
    · rename_i hL
      obtain ⟨t, ht⟩ : ∃ t, t = (c :: q).takeWhile isNamec := ⟨_, rfl⟩
      have htc : ∃ q', t = c :: q' := by rw [ht, List.takeWhile_cons, if_pos (by simp [isNamec, hL])]; exact ⟨_, rfl⟩
      have htn : (t ++ b :: r).takeWhile isNamec = t := takeStop _ _ _ _ (fun x hx => takeWhile_mem _ (c :: q) x (by rw [← ht]; exact hx)) hN
      rw [← ht] at h
      have hwt : w.text = t ∧ wordS (t ++ b :: r) = some w := by
        obtain ⟨q', rfl⟩ := htc
        rw [List.cons_append] at htn ⊢
        simp only [wordS, hL, if_true, htn]
        split at h
        · rename_i hk
          simp only [Option.some.injEq] at h; subst h
          simp [hk]
        · rename_i hk
          split at h
          · rename_i hk2
            simp only [Option.some.injEq] at h; subst h
            simp [hk]
            simpa using hk2
          · simp at h
      rw [hwt.1]
      exact ⟨hwt.2, key t htc (hch' (.inl hL)).1 (hch' (.inl hL)).2, by obtain ⟨q', rfl⟩ := htc; simp⟩
    · rename_i hL
      split at h
      · rename_i hDc
        obtain ⟨t, ht⟩ : ∃ t, t = (c :: q).takeWhile isDigit := ⟨_, rfl⟩
        have htc : ∃ q', t = c :: q' := by rw [ht, List.takeWhile_cons, if_pos hDc]; exact ⟨_, rfl⟩
        have htn : (t ++ b :: r).takeWhile isDigit = t := takeStop _ _ _ _ (fun x hx => takeWhile_mem _ (c :: q) x (by rw [← ht]; exact hx)) hD
        rw [← ht] at h
        have hwt : w.text = t ∧ wordS (t ++ b :: r) = some w := by
          obtain ⟨q', rfl⟩ := htc
          rw [List.cons_append] at htn ⊢
          simp only [wordS, hL, hDc, if_true, htn, Bool.false_eq_true, if_false]
          split at h
          · rename_i hk
            simp only [Option.some.injEq] at h; subst h
            rw [if_pos hk]
            exact ⟨rfl, rfl⟩
          · simp at h
        rw [hwt.1]
        exact ⟨hwt.2, key t htc (hch' (.inr hDc)).1 (hch' (.inr hDc)).2, by obtain ⟨q', rfl⟩ := htc; simp⟩
      · split at h
        · rename_i t ht
          simp only [Option.some.injEq] at h; subst h
          exact absurd rfl hk4
        · simp at h
theorem Cuts.of {n : Nat} {w : Wd} {x : Bs} {L : List Wd} (g : wordS (w.text ++ x) = some w ∧ betw (w.text ++ x) = w.text ++ x ∧ w.text ≠ []) (h : Cuts n x L) : Cuts n (w.text ++ x) (w :: L) := by
  obtain ⟨g1, g2, g3⟩ := g
  obtain ⟨l, h1, h2⟩ := h
  obtain ⟨c, q, hc⟩ : ∃ c q, w.text ++ x = c :: q := by
    cases h : w.text with
    | nil => exact absurd h g3
    | cons c q => exact ⟨c, _, rfl⟩
  have e2 : (c :: q).drop w.text.length = x := by rw [← hc, List.drop_left]
  refine ⟨(n - (c :: q).length, w) :: l, ?_, by simp [h2]⟩
  rw [hc] at g1 g2 ⊢
  rw [cutS_word g2 g1, e2, h1]
theorem Cuts.blanks {n : Nat} {L : List Wd} : ∀ (sep : Bs) (q : Bs), (∀ b ∈ sep, isBlank b = true) → Cuts n q L → Cuts n (sep ++ q) L
  | [], q, _, h => h
  | b :: sep, q, hb, h => by
    obtain ⟨l, h1, h2⟩ := Cuts.blanks sep q (fun x hx => hb x (by simp [hx])) h
    exact ⟨l, by rw [List.cons_append, cutS_congr (betw_blank (hb b (by simp))), h1], h2⟩
abbrev Toks := List (Wd × Bs)
theorem sgl_word {c : UInt8} (hc : c ∈ sgl) (x : Bs) : wordS (([c] : Bs) ++ x) = some ⟨4, [c], 0⟩ ∧ betw (([c] : Bs) ++ x) = [c] ++ x ∧ ([c] : Bs) ≠ [] := by
  simp only [sgl, List.mem_cons, List.not_mem_nil, or_false] at hc
  rcases hc with rfl | rfl | rfl | rfl | rfl | rfl <;> exact ⟨rfl, betw_here (by decide) (by simp), by simp⟩
end Go.Syn

namespace Go.Syn
open Go.Lex
set_option linter.unusedVariables false
def dec (n : Nat) : Bs := if n < 10 then [UInt8.ofNat (48 + n)] else dec (n / 10) ++ [UInt8.ofNat (48 + n % 10)]
termination_by n
decreasing_by omega
theorem dec_toNat (n : Nat) (h : n < 10) : (UInt8.ofNat (48 + n)).toNat = 48 + n := by
  rw [UInt8.toNat_ofNat']; omega
theorem numVal_last (s : Bs) (b : UInt8) : numVal (s ++ [b]) = 10 * numVal s + (b.toNat - 48) := by
  simp [numVal]
theorem dec_ok (n : Nat) : (∀ b ∈ dec n, isDigit b = true) ∧ numVal (dec n) = n ∧ (n < 10 ∧ (dec n).length = 1 ∨ ∃ c q, dec n = c :: q ∧ c ≠ 48) ∧ dec n ≠ [] := by
  induction n using dec.induct with
  | case1 n h =>
    rw [dec, if_pos h]
    have := dec_toNat n h
    refine ⟨?_, ?_, .inl ⟨h, rfl⟩, by simp⟩
    · intro b hb
      simp only [List.mem_singleton] at hb
      subst hb
      simp [isDigit]; omega
    · simp [numVal]; omega
  | case2 n h ih =>
    rw [dec, if_neg h]
    obtain ⟨h1, h2, h3, h4⟩ := ih
    have := dec_toNat (n % 10) (by omega)
    refine ⟨?_, ?_, ?_, by simp⟩
    · intro b hb
      simp only [List.mem_append, List.mem_singleton] at hb
      rcases hb with hb | rfl
      · exact h1 b hb
      · simp [isDigit]; omega
    · rw [numVal_last, h2]; omega
    · right
      rcases h3 with ⟨h5, h6⟩ | ⟨c, q, h5, h6⟩
      · rw [dec, if_pos h5]
        refine ⟨_, _, rfl, fun e => ?_⟩
        have := dec_toNat (n / 10) h5
        rw [e] at this
        simp at this
        omega
      · exact ⟨c, q ++ [UInt8.ofNat (48 + n % 10)], by rw [h5]; rfl, h6⟩
theorem takeWhile_all (p : UInt8 → Bool) : ∀ s : Bs, (∀ b ∈ s, p b = true) → s.takeWhile p = s
  | [], _ => rfl
  | b :: s, h => by rw [List.takeWhile_cons, if_pos (h b (by simp)), takeWhile_all p s fun x hx => h x (by simp [hx])]
theorem dec_word (n : Nat) (hn : n < 9223372036854775808) : Wok ⟨3, dec n, n⟩ := by
  obtain ⟨h1, h2, h3, h4⟩ := dec_ok n
  cases hd : dec n with
  | nil => exact absurd hd h4
  | cons c q =>
    rw [hd] at h1 h2 h3
    refine ⟨c :: q, ?_⟩
    have hc := h1 c (by simp)
    have hL : isLetter c = false := by
      have : ∀ n : Fin 256, isDigit (UInt8.ofNat n.val) = true → isLetter (UInt8.ofNat n.val) = false := by decide +kernel
      have := this ⟨c.toNat, c.toNat_lt⟩
      simpa using this (by simpa using hc)
    simp only [wordS, hL, hc, if_true, Bool.false_eq_true, if_false, takeWhile_all isDigit (c :: q) h1, h2]
    have hh : (c :: q).length = 1 ∨ c ≠ 48 := by
      rcases h3 with ⟨_, h⟩ | ⟨c', q', h, h'⟩
      · exact .inl h
      · simp only [List.cons.injEq] at h
        exact .inr (h.1 ▸ h')
    rw [if_pos ⟨hn, hh⟩]
def sInt : Bs := [105, 110, 116]
def sBool : Bs := [98, 111, 111, 108]
def sVar : Bs := [118, 97, 114]
def sCall : Bs := [99, 97, 108, 108]
def sNot : Bs := [110, 111, 116]
def sPre : Bs := [112, 114, 101]
def sNeg : Bs := [110, 101, 103]
def sWhen : Bs := [119, 104, 101, 110]
def sIf : Bs := [105, 102]
def sThen : Bs := [116, 104, 101, 110]
def sElse : Bs := [101, 108, 115, 101]
def sMerge : Bs := [109, 101, 114, 103, 101]
def sTrue : Bs := [116, 114, 117, 101]
def sFalse : Bs := [102, 97, 108, 115, 101]
def sFby : Bs := [102, 98, 121]
def lp : Wd := ⟨4, [40], 0⟩
def rp : Wd := ⟨4, [41], 0⟩
def cm : Wd := ⟨4, [44], 0⟩
def kw (s : Bs) : Wd := ⟨2, s, 0⟩
def sg (s : Bs) : Wd := ⟨4, s, 0⟩
def nmW (s : Bs) : Wd := ⟨1, s, 0⟩
def opsW : List Wd := [sg [45, 62], kw [111, 114], kw [120, 111, 114], kw [97, 110, 100], sg [61], sg [60, 62], sg [60], sg [60, 61], sg [62], sg [62, 61], sg [43], sg [45], sg [42], sg [47], kw [109, 111, 100], kw sFby]
def unsW : List (Bs × Wd) := [(sNot, kw sNot), (sPre, kw sPre), (sNeg, sg [45])]
mutual
def Ex.er : Ex → Ex
  | .mk op name n _ kids => .mk op name n 0 (Ex.ers kids)
def Ex.ers : List Ex → List Ex
  | [] => []
  | e :: l => e.er :: Ex.ers l
end
mutual
inductive Tr : Ex → List Wd → Bs → Prop
  | int {n pos : Nat} (h : n < 9223372036854775808) : Tr (.mk sInt [] n pos []) [⟨3, dec n, n⟩] (dec n)
  | tt {pos : Nat} : Tr (.mk sBool [] 1 pos []) [kw sTrue] sTrue
  | ff {pos : Nat} : Tr (.mk sBool [] 0 pos []) [kw sFalse] sFalse
  | var {nm : Bs} {pos : Nat} (h : Wok (nmW nm)) : Tr (.mk sVar nm 0 pos []) [nmW nm] nm
  | call0 {nm : Bs} {pos : Nat} (h : Wok (nmW nm)) : Tr (.mk sCall nm 0 pos []) [nmW nm, lp, rp] (nm ++ [40, 41])
  | call {nm : Bs} {pos : Nat} {e : Ex} {l : List Ex} {w ws : List Wd} {t ts : Bs} (h : Wok (nmW nm)) (he : Tr e w t) (hl : Trs l ws ts) : Tr (.mk sCall nm 0 pos (e :: l)) (nmW nm :: lp :: (w ++ (ws ++ [rp]))) (nm ++ (40 :: (t ++ (ts ++ [41]))))
  | un {op : Bs} {o : Wd} {pos : Nat} {k : Ex} {w : List Wd} {t : Bs} (ho : (op, o) ∈ unsW) (hk : Tr k w t) : Tr (.mk op [] 0 pos [k]) (lp :: o :: (w ++ [rp])) (40 :: (o.text ++ (32 :: (t ++ [41]))))
  | whn {nm : Bs} {pos : Nat} {k : Ex} {w : List Wd} {t : Bs} (h : Wok (nmW nm)) (hk : Tr k w t) : Tr (.mk sWhen nm 1 pos [k]) (lp :: (w ++ [kw sWhen, nmW nm, rp])) (40 :: (t ++ (32 :: (sWhen ++ (32 :: (nm ++ [41]))))))
  | whnot {nm : Bs} {pos : Nat} {k : Ex} {w : List Wd} {t : Bs} (h : Wok (nmW nm)) (hk : Tr k w t) : Tr (.mk sWhen nm 0 pos [k]) (lp :: (w ++ [kw sWhen, kw sNot, nmW nm, rp])) (40 :: (t ++ (32 :: (sWhen ++ (32 :: (sNot ++ (32 :: (nm ++ [41]))))))))
  | ite {pos : Nat} {a b c : Ex} {u v w : List Wd} {ta tb tc : Bs} (ha : Tr a u ta) (hb : Tr b v tb) (hc : Tr c w tc) : Tr (.mk sIf [] 0 pos [a, b, c]) (lp :: kw sIf :: (u ++ (kw sThen :: (v ++ (kw sElse :: (w ++ [rp])))))) (40 :: (sIf ++ (32 :: (ta ++ (32 :: (sThen ++ (32 :: (tb ++ (32 :: (sElse ++ (32 :: (tc ++ [41]))))))))))))
  | merge {nm : Bs} {pos : Nat} {a b : Ex} {u v : List Wd} {ta tb : Bs} (h : Wok (nmW nm)) (ha : Trp a u ta) (hb : Trp b v tb) : Tr (.mk sMerge nm 0 pos [a, b]) (lp :: kw sMerge :: nmW nm :: (u ++ (v ++ [rp]))) (40 :: (sMerge ++ (32 :: (nm ++ (32 :: (ta ++ (32 :: (tb ++ [41]))))))))
  | bin {o : Wd} {pos : Nat} {a b : Ex} {u v : List Wd} {ta tb : Bs} (ho : o ∈ opsW) (ha : Tr a u ta) (hb : Tr b v tb) : Tr (.mk o.text [] 0 pos [a, b]) (lp :: (u ++ (o :: (v ++ [rp])))) (40 :: (ta ++ (32 :: (o.text ++ (32 :: (tb ++ [41]))))))
inductive Trs : List Ex → List Wd → Bs → Prop
  | nil : Trs [] [] []
  | cons {e : Ex} {l : List Ex} {w ws : List Wd} {t ts : Bs} (he : Tr e w t) (hl : Trs l ws ts) : Trs (e :: l) (cm :: (w ++ ws)) (44 :: 32 :: (t ++ ts))
inductive Trp : Ex → List Wd → Bs → Prop
  | var {nm : Bs} {pos : Nat} (h : Wok (nmW nm)) : Trp (.mk sVar nm 0 pos []) [lp, nmW nm, rp] (40 :: (nm ++ [41]))
  | of {op nm : Bs} {n pos : Nat} {ks : List Ex} {w : List Wd} {t : Bs} (hn : op ≠ sVar) (h : Tr (.mk op nm n pos ks) w t) : Trp (.mk op nm n pos ks) w t
end
theorem Wok.kw {s : Bs} (h : s ∈ keptWords) : Wok (kw s) := ⟨s, (by decide +kernel : ∀ s ∈ keptWords, wordS s = some (Syn.kw s)) s h⟩
theorem Wok.sg {s : Bs} (h : s ∈ signs) : Wok (sg s) := ⟨s, (by decide +kernel : ∀ s ∈ signs, wordS s = some (Syn.sg s)) s h⟩
theorem Wok.op {o : Wd} (h : o ∈ opsW) : Wok o := ⟨o.text, (by decide +kernel : ∀ o ∈ opsW, wordS o.text = some o) o h⟩
theorem un_sign {op : Bs} {o : Wd} (h : (op, o) ∈ unsW) : Wok o := ⟨o.text, (by decide +kernel : ∀ p ∈ unsW, wordS p.2.text = some p.2) (op, o) h⟩
theorem Cuts.sg {n : Nat} {c : UInt8} {q : Bs} {L : List Wd} (hc : c ∈ sgl) (h : Cuts n q L) : Cuts n (c :: q) (⟨4, [c], 0⟩ :: L) := Cuts.of (w := ⟨4, [c], 0⟩) (sgl_word hc q) h
theorem cuts_lp {n : Nat} {q : Bs} {L : List Wd} (h : Cuts n q L) : Cuts n (40 :: q) (lp :: L) := Cuts.sg (by decide) h
theorem cuts_rp {n : Nat} {q : Bs} {L : List Wd} (h : Cuts n q L) : Cuts n (41 :: q) (rp :: L) := Cuts.sg (by decide) h
theorem cuts_cm {n : Nat} {q : Bs} {L : List Wd} (h : Cuts n q L) : Cuts n (44 :: q) (cm :: L) := Cuts.sg (by decide) h
theorem Cuts.wb {n : Nat} {w : Wd} {q : Bs} {L : List Wd} (hw : Wok w) (h : Cuts n q L) : Cuts n (w.text ++ 32 :: q) (w :: L) := Cuts.of (word_blank hw (by decide) q) h.blank
theorem Cuts.ws {n : Nat} {w : Wd} {b : UInt8} {q : Bs} {L : List Wd} (hw : Wok w) (hk : w.kind ≠ 4) (hb : isNamec b = false) (h : Cuts n (b :: q) L) : Cuts n (w.text ++ b :: q) (w :: L) := Cuts.of (word_sign hw hk hb q) h
def CutE (n : Nat) (w : List Wd) (t : Bs) : Prop := ∀ (b : UInt8) (q : Bs) (L : List Wd), isNamec b = false → Cuts n (b :: q) L → Cuts n (t ++ b :: q) (w ++ L)
theorem CutE.bl {n : Nat} {w : List Wd} {t q : Bs} {L : List Wd} (h : CutE n w t) (hq : Cuts n q L) : Cuts n (t ++ 32 :: q) (w ++ L) := h 32 q L (by decide) hq.blank
theorem CutE.rp {n : Nat} {w : List Wd} {t q : Bs} {L : List Wd} (h : CutE n w t) (hq : Cuts n q L) : Cuts n (t ++ 41 :: q) (w ++ (rp :: L)) := h 41 q _ (by decide) (cuts_rp hq)
mutual
theorem tr_cuts {n : Nat} : ∀ {e : Ex} {w : List Wd} {t : Bs}, Tr e w t → CutE n w t
  | _, _, _, .int h => fun b q L hb hq => Cuts.ws (dec_word _ h) (by decide : (3 : Nat) ≠ 4) hb hq
  | _, _, _, .tt => fun b q L hb hq => Cuts.ws (Wok.kw (s := sTrue) (by decide)) (by decide) hb hq
  | _, _, _, .ff => fun b q L hb hq => Cuts.ws (Wok.kw (s := sFalse) (by decide)) (by decide) hb hq
  | _, _, _, .var h => fun b q L hb hq => Cuts.ws h (by decide : (1 : Nat) ≠ 4) hb hq
  | _, _, _, .call0 h => fun b q L hb hq => by
    simp only [List.append_assoc, List.cons_append, List.nil_append]
    exact Cuts.ws h (by decide : (1 : Nat) ≠ 4) (by decide) (cuts_lp (cuts_rp hq))
  | _, _, _, .call h he hl => fun b q L hb hq => by
    simp only [List.append_assoc, List.cons_append, List.nil_append]
    exact Cuts.ws h (by decide : (1 : Nat) ≠ 4) (by decide) (cuts_lp (trs_cuts hl (tr_cuts he) (cuts_rp hq)))
  | _, _, _, .un ho hk => fun b q L hb hq => by
    simp only [List.append_assoc, List.cons_append, List.nil_append]
    exact cuts_lp (Cuts.wb (un_sign ho) ((tr_cuts hk).rp hq))
  | _, _, _, .whn h hk => fun b q L hb hq => by
    simp only [List.append_assoc, List.cons_append, List.nil_append]
    exact cuts_lp ((tr_cuts hk).bl (Cuts.wb (w := kw sWhen) (Wok.kw (by decide)) (Cuts.ws h (by decide : (1 : Nat) ≠ 4) (by decide) (cuts_rp hq))))
  | _, _, _, .whnot h hk => fun b q L hb hq => by
    simp only [List.append_assoc, List.cons_append, List.nil_append]
    exact cuts_lp ((tr_cuts hk).bl (Cuts.wb (w := kw sWhen) (Wok.kw (by decide)) (Cuts.wb (w := kw sNot) (Wok.kw (by decide)) (Cuts.ws h (by decide : (1 : Nat) ≠ 4) (by decide) (cuts_rp hq)))))
  | _, _, _, .ite ha hb hc => fun b q L hb' hq => by
    simp only [List.append_assoc, List.cons_append, List.nil_append]
    exact cuts_lp (Cuts.wb (w := kw sIf) (Wok.kw (by decide)) ((tr_cuts ha).bl (Cuts.wb (w := kw sThen) (Wok.kw (by decide)) ((tr_cuts hb).bl (Cuts.wb (w := kw sElse) (Wok.kw (by decide)) ((tr_cuts hc).rp hq))))))
  | _, _, _, .merge h ha hb => fun b q L hb' hq => by
    simp only [List.append_assoc, List.cons_append, List.nil_append]
    exact cuts_lp (Cuts.wb (w := kw sMerge) (Wok.kw (by decide)) (Cuts.wb h ((trp_cuts ha).bl ((trp_cuts hb).rp hq))))
  | _, _, _, .bin ho ha hb => fun b q L hb' hq => by
    simp only [List.append_assoc, List.cons_append, List.nil_append]
    exact cuts_lp ((tr_cuts ha).bl (Cuts.wb (Wok.op ho) ((tr_cuts hb).rp hq)))
theorem trs_cuts {n : Nat} : ∀ {l : List Ex} {ws : List Wd} {ts : Bs}, Trs l ws ts → ∀ {w : List Wd} {t : Bs}, CutE n w t → ∀ {q : Bs} {L : List Wd}, Cuts n (41 :: q) L → Cuts n (t ++ (ts ++ 41 :: q)) (w ++ (ws ++ L))
  | _, _, _, .nil => fun he => fun {_ L} hq => he 41 _ L (by decide) hq
  | _, _, _, .cons hf hl => fun he => fun hq => by
    simp only [List.append_assoc, List.cons_append]
    exact he 44 _ _ (by decide) (cuts_cm (Cuts.blank (trs_cuts hl (tr_cuts hf) hq)))
theorem trp_cuts {n : Nat} : ∀ {e : Ex} {w : List Wd} {t : Bs}, Trp e w t → CutE n w t
  | _, _, _, .var h => fun b q L hb hq => by
    simp only [List.append_assoc, List.cons_append, List.nil_append]
    exact cuts_lp (Cuts.ws h (by decide : (1 : Nat) ≠ 4) (by decide) (cuts_rp hq))
  | _, _, _, .of _ h => tr_cuts h
end
end Go.Syn

namespace Go.Syn
open Go.Lex
set_option linter.unusedVariables false
set_option linter.unusedSimpArgs false
variable {W : Ws}
def sfx (W : Ws) (s : St) : List Wd := (W.drop s.i).map (·.2)
def At (W : Ws) (s : St) (ws : List Wd) : Prop := s.err = 0 ∧ sfx W s = ws
def isW (w : Wd) (t : Bs) : Bool := (w.kind == 2 || w.kind == 4) && w.text == t
theorem sfx_cons {s : St} {w : Wd} {ws : List Wd} (h : sfx W s = w :: ws) : (at_ W s).2 = w ∧ (∀ s' : St, s'.i = s.i + 1 → sfx W s' = ws) := by
  unfold sfx at h
  cases hd : W.drop s.i with
  | nil => rw [hd] at h; simp at h
  | cons x l =>
    rw [hd] at h
    simp only [List.map_cons, List.cons.injEq] at h
    have hx : W[s.i]? = some x := by
      have := congrArg (·[0]?) hd
      simpa using this
    refine ⟨?_, fun s' hs => ?_⟩
    · unfold at_
      rw [List.getD_eq_getElem?_getD, hx]
      exact h.1
    · unfold sfx
      have : W.drop (s.i + 1) = l := by
        have := congrArg (List.drop 1) hd
        simpa [List.drop_drop, Nat.add_comm] using this
      rw [hs, this]
      exact h.2
theorem At.kind {s : St} {w : Wd} {ws : List Wd} (h : At W s (w :: ws)) : Syn.kind W s = w.kind := by unfold Syn.kind; rw [(sfx_cons h.2).1]
theorem At.text {s : St} {w : Wd} {ws : List Wd} (h : At W s (w :: ws)) : Syn.text W s = w.text := by unfold Syn.text; rw [(sfx_cons h.2).1]
theorem At.next {s s' : St} {w : Wd} {ws : List Wd} (h : At W s (w :: ws)) (hi : s'.i = s.i + 1) (he : s'.err = 0) : At W s' ws := ⟨he, (sfx_cons h.2).2 s' hi⟩
theorem At.same {s s' : St} {ws : List Wd} (h : At W s ws) (hi : s'.i = s.i) (he : s'.err = s.err) : At W s' ws := ⟨he.trans h.1, by unfold sfx; rw [hi]; exact h.2⟩
theorem At.is {s : St} {w : Wd} {ws : List Wd} (h : At W s (w :: ws)) (t : Bs) : Syn.is W s t = isW w t := by
  unfold Syn.is isW
  rw [h.kind, h.text, h.1]
  rfl
theorem At.one {s : St} {w : Wd} {ws : List Wd} (h : At W s (w :: ws)) (ts : List Bs) : Syn.one W s ts = ts.any (isW w) := by
  unfold Syn.one
  congr 1
  exact funext fun t => h.is t
theorem At.len {s : St} {ws : List Wd} (h : At W s ws) : ws.length ≤ W.length := by
  rw [← h.2]
  unfold sfx
  simp
theorem is_bad {s : St} (h : s.err ≠ 0) (t : Bs) : Syn.is W s t = false := by
  unfold Syn.is
  rw [beq_false_of_ne h]
  rfl
theorem one_bad {s : St} (h : s.err ≠ 0) (ts : List Bs) : Syn.one W s ts = false := by
  unfold Syn.one
  rw [List.any_eq_false]
  intro t _
  rw [is_bad h]
  decide
theorem fail_bad {s : St} (h : s.err ≠ 0) (e : Nat) : fail W e s = s := by unfold fail; rw [if_neg h]
theorem fail_err {s : St} (h : s.err = 0) (e : Nat) : (fail W e s).err = e := by unfold fail; rw [if_pos h]
theorem want1_bad {s : St} (h : s.err ≠ 0) (t : Bs) : want1 W s t = s := by
  unfold want1; rw [is_bad h, if_neg (by decide), fail_bad h]
theorem name_bad {s : St} (h : s.err ≠ 0) : name W s = ([], s) := by
  unfold name
  have h1 : (if kind W s = 1 then s else fail W 7 s) = s := by
    split
    · rfl
    · exact fail_bad h _
  simp only [h1, if_neg h]
theorem deeper_bad {s : St} (h : s.err ≠ 0) (last : Bool) : deeper W last s = (false, s) := by
  unfold deeper
  cases last
  · simp [h]
  · simp [fail_bad h, h]
def Stk {α : Type} (f : St → α × St) : Prop := ∀ s, s.err ≠ 0 → (f s).2.err = s.err
theorem Stk.two {α : Type} {f : St → α × St} (h : Stk f) {s : St} (hs : s.err = 2) : (f s).2.err = 2 := (h s (by omega)).trans hs
theorem rowL_bad (next : P) (ts : List Bs) {s : St} (h : s.err ≠ 0) (e : Ex) : ∀ k, rowL W next ts k e s = (e, s)
  | 0 => rfl
  | k + 1 => by rw [rowL, one_bad h]; rfl
theorem whenL_bad {s : St} (h : s.err ≠ 0) (e : Ex) : ∀ k, whenL W k e s = (e, s)
  | 0 => rfl
  | k + 1 => by rw [whenL, is_bad h]; rfl
theorem argsL_bad (inn : P) {s : St} (h : s.err ≠ 0) (l : List Ex) : ∀ k, argsL W inn k l s = (l, s)
  | 0 => rfl
  | k + 1 => by rw [argsL, is_bad h]; rfl
theorem row_stk {next : P} (hn : Stk next) (ts : List Bs) : Stk (row W next ts) := fun s h => by
  have h1 := hn s h
  unfold row
  simp only [rowL_bad (W := W) next ts (s := (next s).2) (by rw [h1]; exact h), h1]
theorem right_stk {next : P} (hn : Stk next) (t : Bs) (last : Bool) (below : P) : Stk (right W next t last below) := fun s h => by
  have h1 := hn s h
  unfold right
  simp only [is_bad (W := W) (s := (next s).2) (by rw [h1]; exact h)]
  exact h1
theorem cmp_stk {next : P} (hn : Stk next) : Stk (cmp W next) := fun s h => by
  have h1 := hn s h
  unfold cmp
  simp only [one_bad (W := W) (s := (next s).2) (by rw [h1]; exact h)]
  exact h1
theorem when_stk {next : P} (hn : Stk next) : Stk (when_ W next) := fun s h => by
  have h1 := hn s h
  unfold when_
  simp only [whenL_bad (W := W) (s := (next s).2) (by rw [h1]; exact h), h1]
theorem inner_stk (last : Bool) (below : P) : Stk (inner W last below) := fun s h => by
  unfold inner
  rw [deeper_bad h]
  rfl
theorem prim_stk (inn mer : P) : Stk (prim W inn mer) := fun s h => by
  unfold prim
  simp only
  rw [if_pos h]
theorem un_stk {pr : P} (hp : Stk pr) (last : Bool) (below : P) : Stk (un W pr last below) := fun s h => by
  unfold un
  rw [one_bad h]
  exact hp s h
def Fol (F : List Bs) (ws : List Wd) : Prop := ∃ w ws', ws = w :: ws' ∧ ∀ t ∈ F, isW w t = false
theorem Fol.sub {F G : List Bs} {ws : List Wd} (h : Fol G ws) (hs : ∀ t ∈ F, t ∈ G) : Fol F ws := by
  obtain ⟨w, ws', e, h⟩ := h
  exact ⟨w, ws', e, fun t ht => h t (hs t ht)⟩
def Out (W : Ws) (r : Ex × St) (e : Ex) (ws : List Wd) (nm : Int) : Prop := r.2.err = 2 ∨ (At W r.2 ws ∧ r.2.names = nm ∧ r.1.er = e.er)
def Rd (W : Ws) (p : List Wd → Prop) (f : P) (e : Ex) (w : List Wd) : Prop := ∀ s ws, At W s (w ++ ws) → p ws → Out W (f s) e ws s.names
theorem Rd.mono {p q : List Wd → Prop} {f : P} {e : Ex} {w : List Wd} (h : Rd W p f e w) (hq : ∀ ws, q ws → p ws) : Rd W q f e w := fun s ws ha hf => h s ws ha (hq ws hf)
def mulT : List Bs := [[42], [47], [109, 111, 100]]
def addT : List Bs := [[43], [45]]
def cmpT : List Bs := [[61], [60, 62], [60], [60, 61], [62], [62, 61]]
def andT : List Bs := [[97, 110, 100]]
def orT : List Bs := [[111, 114], [120, 111, 114]]
def F0 : List Bs := [[40]]
def F1 : List Bs := F0 ++ [sWhen]
def F2 : List Bs := F1 ++ [sFby]
def F3 : List Bs := F2 ++ mulT
def F4 : List Bs := F3 ++ addT
def F5 : List Bs := F4 ++ cmpT
def F6 : List Bs := F5 ++ andT
def F7 : List Bs := F6 ++ orT
def F8 : List Bs := F7 ++ [[45, 62]]
theorem rowL_stop {next : P} {ts : List Bs} {s : St} {w : Wd} {ws : List Wd} (h : At W s (w :: ws)) (hw : ∀ t ∈ ts, isW w t = false) (e : Ex) : ∀ k, rowL W next ts k e s = (e, s)
  | 0 => rfl
  | k + 1 => by
    rw [rowL, h.one, if_neg]
    rw [Bool.not_eq_true, List.any_eq_false]
    intro t ht
    rw [hw t ht]
    decide
theorem whenL_stop {s : St} {w : Wd} {ws : List Wd} (h : At W s (w :: ws)) (hw : isW w sWhen = false) (e : Ex) : ∀ k, whenL W k e s = (e, s)
  | 0 => rfl
  | k + 1 => by
    rw [whenL, h.is, show isW w [119, 104, 101, 110] = false from hw]
    rfl
theorem Rd.row {p : List Wd → Prop} {f : P} {e : Ex} {w : List Wd} (h : Rd W p f e w) (ts : List Bs) (hp : ∀ ws, p ws → Fol ts ws) : Rd W p (Syn.row W f ts) e w := fun s ws ha hf => by
  have h1 := h s ws ha hf
  obtain ⟨x, ws', rfl, hx⟩ := hp ws hf
  unfold Syn.row
  rcases h1 with h1 | ⟨h1, h2, h3⟩
  · exact .inl (by simp only [rowL_bad (W := W) f ts (s := (f s).2) (by omega)]; exact h1)
  · simp only [rowL_stop (next := f) (ts := ts) h1 hx]
    exact .inr ⟨h1, h2, h3⟩
theorem Rd.right {p : List Wd → Prop} {f : P} {e : Ex} {w : List Wd} (h : Rd W p f e w) (t : Bs) (last : Bool) (below : P) (hp : ∀ ws, p ws → Fol [t] ws) : Rd W p (Syn.right W f t last below) e w := fun s ws ha hf => by
  have h1 := h s ws ha hf
  obtain ⟨x, ws', rfl, hx⟩ := hp ws hf
  unfold Syn.right
  rcases h1 with h1 | ⟨h1, h2, h3⟩
  · exact .inl (by simp only [is_bad (W := W) (s := (f s).2) (by omega)]; exact h1)
  · simp only [h1.is, hx t (by simp)]
    exact .inr ⟨h1, h2, h3⟩
theorem Rd.cmp {p : List Wd → Prop} {f : P} {e : Ex} {w : List Wd} (h : Rd W p f e w) (hp : ∀ ws, p ws → Fol cmpT ws) : Rd W p (Syn.cmp W f) e w := fun s ws ha hf => by
  have h1 := h s ws ha hf
  obtain ⟨x, ws', rfl, hx⟩ := hp ws hf
  unfold Syn.cmp
  rcases h1 with h1 | ⟨h1, h2, h3⟩
  · exact .inl (by simp only [one_bad (W := W) (s := (f s).2) (by omega)]; exact h1)
  · have : Syn.one W (f s).2 cmpT = false := by
      rw [h1.one, List.any_eq_false]
      intro t ht
      rw [hx t ht]
      decide
    simp only [show Syn.one W (f s).2 [[61], [60, 62], [60], [60, 61], [62], [62, 61]] = false from this]
    exact .inr ⟨h1, h2, h3⟩
theorem Rd.when_ {p : List Wd → Prop} {f : P} {e : Ex} {w : List Wd} (h : Rd W p f e w) (hp : ∀ ws, p ws → Fol [sWhen] ws) : Rd W p (Syn.when_ W f) e w := fun s ws ha hf => by
  have h1 := h s ws ha hf
  obtain ⟨x, ws', rfl, hx⟩ := hp ws hf
  unfold Syn.when_
  rcases h1 with h1 | ⟨h1, h2, h3⟩
  · exact .inl (by simp only [whenL_bad (W := W) (s := (f s).2) (by omega)]; exact h1)
  · simp only [whenL_stop h1 (hx sWhen (by simp))]
    exact .inr ⟨h1, h2, h3⟩
end Go.Syn

namespace Go.Syn
open Go.Lex
set_option linter.unusedVariables false
set_option linter.unusedSimpArgs false
variable {W : Ws}
theorem want1_at {s : St} {w : Wd} {ws : List Wd} {t : Bs} (h : At W s (w :: ws)) (hw : isW w t = true) : At W (want1 W s t) ws ∧ (want1 W s t).names = s.names := by
  unfold want1
  rw [h.is, hw, if_pos rfl]
  exact ⟨h.next rfl h.1, rfl⟩
theorem Out.want {r : Ex × St} {e : Ex} {w : Wd} {ws : List Wd} {t : Bs} {nm : Int} (h : Out W r e (w :: ws) nm) (hw : isW w t = true) : Out W (r.1, want1 W r.2 t) e ws nm := by
  rcases h with h | ⟨h1, h2, h3⟩
  · exact .inl (by show (want1 W r.2 t).err = 2; rw [want1_bad (by omega)]; exact h)
  · exact .inr ⟨(want1_at h1 hw).1, (want1_at h1 hw).2.trans h2, h3⟩
inductive Cont : Ex → List Wd → Prop
  | tr {e : Ex} {w : List Wd} {t : Bs} (h : Tr e w t) : Cont e w
  | un {op : Bs} {o : Wd} {pos : Nat} {k : Ex} {w : List Wd} {t : Bs} (ho : (op, o) ∈ unsW) (hk : Tr k w t) : Cont (.mk op [] 0 pos [k]) (o :: w)
  | whn {nm : Bs} {pos : Nat} {k : Ex} {w : List Wd} {t : Bs} (h : Wok (nmW nm)) (hk : Tr k w t) : Cont (.mk sWhen nm 1 pos [k]) (w ++ [kw sWhen, nmW nm])
  | whnot {nm : Bs} {pos : Nat} {k : Ex} {w : List Wd} {t : Bs} (h : Wok (nmW nm)) (hk : Tr k w t) : Cont (.mk sWhen nm 0 pos [k]) (w ++ [kw sWhen, kw sNot, nmW nm])
  | ite {pos : Nat} {a b c : Ex} {u v w : List Wd} {ta tb tc : Bs} (ha : Tr a u ta) (hb : Tr b v tb) (hc : Tr c w tc) : Cont (.mk sIf [] 0 pos [a, b, c]) (kw sIf :: (u ++ (kw sThen :: (v ++ (kw sElse :: w)))))
  | merge {nm : Bs} {pos : Nat} {a b : Ex} {u v : List Wd} {ta tb : Bs} (h : Wok (nmW nm)) (ha : Trp a u ta) (hb : Trp b v tb) : Cont (.mk sMerge nm 0 pos [a, b]) (kw sMerge :: nmW nm :: (u ++ v))
  | bin {o : Wd} {pos : Nat} {a b : Ex} {u v : List Wd} {ta tb : Bs} (ho : o ∈ opsW) (ha : Tr a u ta) (hb : Tr b v tb) : Cont (.mk o.text [] 0 pos [a, b]) (u ++ (o :: v))
def Rp (ws : List Wd) : Prop := ∃ ws', ws = rp :: ws'
structure LvOk (W : Ws) (L : Lv) : Prop where
  part : ∀ e w t, Trp e w t → ∀ s ws, At W s (w ++ ws) → Out W (L.prim s) e ws s.names
  un : ∀ e w t, Tr e w t → Rd W (Fol F0) L.un e w
  fby : ∀ e w t, Tr e w t → Rd W (Fol F2) L.fby e w
  expr : ∀ e w t, Tr e w t → Rd W (Fol F8) L.expr e w
  cont : ∀ e w, Cont e w → Rd W Rp L.expr e w
theorem inner_last {below : P} {s : St} (h : s.err = 0) : (inner W true below s).2.err = 2 := by
  unfold inner deeper
  simp [fail_err h]
theorem inner_not {below : P} {s : St} (h : s.err = 0) : inner W false below s = below s := by
  unfold inner deeper
  simp [h]
theorem Rd.inner {p : List Wd → Prop} {below : P} {e : Ex} {w : List Wd} {last : Bool} (h : last = false → Rd W p below e w) : Rd W p (Syn.inner W last below) e w := fun s ws ha hf => by
  cases last
  · rw [inner_not ha.1]; exact h rfl s ws ha hf
  · exact .inl (inner_last ha.1)
def Hd (w : List Wd) : Prop := ∃ x xs, w = x :: xs ∧ isW x sNot = false ∧ isW x [45] = false ∧ isW x sPre = false ∧ isW x [41] = false
theorem Rd.un {p : List Wd → Prop} {pr : P} {e : Ex} {w : List Wd} (h : Rd W p pr e w) (hw : Hd w) (last : Bool) (below : P) : Rd W p (Syn.un W pr last below) e w := fun s ws ha hf => by
  obtain ⟨x, xs, rfl, h1, h2, h3, _⟩ := hw
  have : Syn.one W s [sNot, [45], sPre] = false := by
    rw [At.one (ws := xs ++ ws) ha]
    simp [h1, h2, h3]
  unfold Syn.un
  rw [show Syn.one W s [[110, 111, 116], [45], [112, 114, 101]] = false from this]
  exact h s ws ha hf
section levels
variable {last : Bool} {b : Lv} {u : P} {p : List Wd → Prop} {e : Ex} {w : List Wd}
end levels
end Go.Syn

namespace Go.Syn
open Go.Lex
set_option linter.unusedVariables false
set_option linter.unusedSimpArgs false
variable {W : Ws} {inn mer : P}
structure Inn (W : Ws) (inn mer : P) : Prop where
  expr : ∀ e w t, Tr e w t → Rd W (Fol F8) inn e w
  cont : ∀ e w, Cont e w → Rd W Rp inn e w
  part : ∀ e w t, Trp e w t → ∀ s ws, At W s (w ++ ws) → Out W (mer s) e ws s.names
  stk : Stk inn
  stkm : Stk mer
section depth
variable {last : Bool} {b : Lv} {u : P}
end depth
end Go.Syn

namespace Go.Syn
open Go.Lex
set_option linter.unusedVariables false
set_option linter.unusedSimpArgs false
variable {W : Ws}
section
variable {last : Bool} {b : Lv}
end
end Go.Syn

namespace Go.Syn
open Go.Lex
set_option linter.unusedVariables false
set_option linter.unusedSimpArgs false
variable {W : Ws}
def Va.er (v : Va) : Va := { v with pos := 0 }
def Eqn.er (q : Eqn) : Eqn := ⟨q.name, q.e.er, 0⟩
def Nd.er (n : Nd) : Nd := ⟨n.name, n.ins.map Va.er, n.outs.map Va.er, n.locals.map Va.er, n.eqs.map Eqn.er, 0⟩
def sNode : Bs := [110, 111, 100, 101]
def sReturns : Bs := [114, 101, 116, 117, 114, 110, 115]
def sLet : Bs := [108, 101, 116]
def sTel : Bs := [116, 101, 108]
def semi : Wd := ⟨4, [59], 0⟩
def colon : Wd := ⟨4, [58], 0⟩
def eqs_ : Wd := ⟨4, [61], 0⟩
inductive Vd : Va → List Wd → Prop
  | bool {nm : Bs} {pos : Nat} (h : Wok (nmW nm)) : Vd ⟨nm, 1, [], false, pos⟩ [nmW nm, colon, kw sBool]
  | int {nm : Bs} {pos : Nat} (h : Wok (nmW nm)) : Vd ⟨nm, 2, [], false, pos⟩ [nmW nm, colon, kw sInt]
inductive Vl : Va → List Wd → Prop
  | no {v : Va} {w : List Wd} (h : Vd v w) : Vl v w
  | on {nm on : Bs} {k pos : Nat} {w : List Wd} (h : Vd ⟨nm, k, [], false, pos⟩ w) (ho : Wok (nmW on)) : Vl ⟨nm, k, on, false, pos⟩ (w ++ [kw sWhen, nmW on])
  | off {nm on : Bs} {k pos : Nat} {w : List Wd} (h : Vd ⟨nm, k, [], false, pos⟩ w) (ho : Wok (nmW on)) : Vl ⟨nm, k, on, true, pos⟩ (w ++ [kw sWhen, kw sNot, nmW on])
inductive Vs (R : Va → List Wd → Prop) : List Va → List Wd → Prop
  | one {v : Va} {w : List Wd} (h : R v w) : Vs R [v] w
  | cons {v : Va} {l : List Va} {w ws : List Wd} (h : R v w) (hl : Vs R l ws) : Vs R (v :: l) (w ++ (semi :: ws))
inductive Vs0 : List Va → List Wd → Prop
  | nil : Vs0 [] []
  | of {l : List Va} {w : List Wd} (h : Vs Vd l w) : Vs0 l w
end Go.Syn

namespace Go.Syn
open Go.Lex
set_option linter.unusedVariables false
set_option linter.unusedSimpArgs false
variable {W : Ws}
inductive Vse : List Va → List Wd → Prop
  | nil : Vse [] []
  | cons {v : Va} {l : List Va} {w ws : List Wd} (h : Vl v w) (hl : Vse l ws) : Vse (v :: l) (w ++ (semi :: ws))
def Ew (e : Ex) (w : List Wd) : Prop := (∃ t, Tr e w t) ∨ ∃ cw t, Tr e cw t ∧ w = lp :: (cw ++ [rp])
inductive Es : List Eqn → List Wd → Prop
  | nil : Es [] []
  | cons {nm : Bs} {e : Ex} {pos : Nat} {l : List Eqn} {w ws : List Wd} (h : Wok (nmW nm)) (he : Ew e w) (hl : Es l ws) : Es (⟨nm, e, pos⟩ :: l) (nmW nm :: eqs_ :: (w ++ (semi :: ws)))
def Nw (n : Nd) (w : List Wd) : Prop := ∃ (wi wo wl we : List Wd) (b : Bool), Wok (nmW n.name) ∧ Vs0 n.ins wi ∧ Vs0 n.outs wo ∧ (n.locals = [] ∧ wl = [] ∨ n.locals ≠ [] ∧ ∃ u, Vse n.locals u ∧ wl = kw sVar :: u) ∧ Es n.eqs we ∧
  w = kw sNode :: nmW n.name :: lp :: (wi ++ (rp :: kw sReturns :: lp :: (wo ++ (rp :: semi :: (wl ++ (kw sLet :: (we ++ (kw sTel :: (if b then [semi] else [])))))))))
inductive Ns : List Nd → List Wd → Prop
  | nil : Ns [] []
  | cons {n : Nd} {l : List Nd} {w ws : List Wd} (h : Nw n w) (hl : Ns l ws) : Ns (n :: l) (w ++ ws)
def endW : Wd := ⟨0, [], 0⟩
end Go.Syn

namespace Go.Syn
open Go.Lex
set_option linter.unusedVariables false
set_option linter.unusedSimpArgs false
variable {W : Ws}
def WsG (W : Ws) : Prop := ∀ s : St, (Syn.kind W s = 1 → Wok (nmW (Syn.text W s))) ∧ ((at_ W s).2.kind = 3 → (at_ W s).2.n < 9223372036854775808)
theorem want1_err0 {s : St} {t : Bs} (h : (want1 W s t).err = 0) : s.err = 0 := by
  by_cases q : s.err = 0
  · exact q
  · rw [want1_bad q] at h; exact h
theorem take_err {s : St} {t : Bs} : (take W s t).2.err = s.err := by
  unfold take
  split <;> rfl
theorem name_err0 {s : St} (h : (name W s).2.err = 0) : s.err = 0 ∧ Syn.kind W s = 1 ∧ (name W s).1 = Syn.text W s := by
  by_cases q : s.err = 0
  · refine ⟨q, ?_⟩
    unfold name at h ⊢
    by_cases hk : Syn.kind W s = 1
    · simp only [hk, if_true, q]
      exact ⟨trivial, trivial⟩
    · have e : (fail W 7 s).err = 7 := fail_err q 7
      simp only [hk, if_false, e] at h
      simp [e] at h
  · rw [name_bad q] at h
    exact absurd h q
theorem name_ok (hG : WsG W) {s : St} (h : (name W s).2.err = 0) : Wok (nmW (name W s).1) := by
  obtain ⟨_, h1, h2⟩ := name_err0 h
  rw [h2]
  exact (hG s).1 h1
theorem deeper_err0 {last : Bool} {s : St} (h : (deeper W last s).2.err = 0) : s.err = 0 ∧ last = false ∧ deeper W last s = (true, s) := by
  by_cases q : s.err = 0
  · cases last
    · refine ⟨q, rfl, ?_⟩
      unfold deeper
      simp [q]
    · unfold deeper at h
      simp [fail_err q] at h
  · rw [deeper_bad q] at h
    exact absurd h q
theorem is_true {s : St} {t : Bs} (h : Syn.is W s t = true) : s.err = 0 ∧ Syn.text W s = t := by
  unfold Syn.is at h
  simp only [Bool.and_eq_true, beq_iff_eq] at h
  exact ⟨h.1, h.2.2⟩
theorem is_kind {s : St} {t : Bs} (h : Syn.is W s t = true) : Syn.kind W s = 2 ∨ Syn.kind W s = 4 := by
  unfold Syn.is at h
  simp only [Bool.and_eq_true, Bool.or_eq_true, beq_iff_eq] at h
  exact h.2.1
theorem one_true {s : St} {ts : List Bs} (h : Syn.one W s ts = true) : s.err = 0 ∧ Syn.text W s ∈ ts ∧ (Syn.kind W s = 2 ∨ Syn.kind W s = 4) := by
  unfold Syn.one at h
  obtain ⟨t, ht, h⟩ := List.any_eq_true.1 h
  obtain ⟨h1, h2⟩ := is_true h
  exact ⟨h1, h2 ▸ ht, is_kind h⟩
theorem Stk.err0 {α : Type} {f : St → α × St} (h : Stk f) {s : St} (hs : (f s).2.err = 0) : s.err = 0 := by
  by_cases q : s.err = 0
  · exact q
  · exact (h s q).symm.trans hs
structure Gd (f : P) : Prop where
  stk : Stk f
  ok : ∀ s, (f s).2.err = 0 → ∃ w t, Tr (f s).1 w t
def WfE (e : Ex) : Prop := ∃ w t, Tr e w t
theorem wf_bin {op : Bs} {pos : Nat} {a b : Ex} (ho : ∃ o ∈ opsW, o.text = op) (ha : WfE a) (hb : WfE b) : WfE (.mk op [] 0 pos [a, b]) := by
  obtain ⟨o, ho, rfl⟩ := ho
  obtain ⟨u, ta, ha⟩ := ha
  obtain ⟨v, tb, hb⟩ := hb
  exact ⟨_, _, .bin ho ha hb⟩
theorem wf_part {e : Ex} (h : WfE e) : ∃ w t, Trp e w t := by
  obtain ⟨w, t, h⟩ := h
  by_cases hv : ∃ nm n pos ks, e = .mk sVar nm n pos ks
  · obtain ⟨nm, n, pos, ks, rfl⟩ := hv
    generalize hop : sVar = op at h
    cases h with
    | var h => exact ⟨_, _, .var h⟩
    | un ho hk =>
      have := (by decide +kernel : ∀ p ∈ unsW, p.1 ≠ sVar) _ ho
      exact absurd hop.symm this
    | bin ho ha hb =>
      have := (by decide +kernel : ∀ o ∈ opsW, o.text ≠ sVar) _ ho
      exact absurd hop.symm this
    | _ => exact absurd hop (by decide)
  · obtain ⟨op, nm, n, pos, ks⟩ := e
    exact ⟨w, t, .of (fun e => hv ⟨nm, n, pos, ks, by rw [e]⟩) h⟩
theorem rowL_ok {f : P} (hn : Gd f) {ts : List Bs} (hts : ∀ t ∈ ts, ∃ o ∈ opsW, o.text = t) : ∀ (k : Nat) (e : Ex) (s : St), WfE e → (rowL W f ts k e s).2.err = 0 → WfE (rowL W f ts k e s).1
  | 0, e, s, he, h => he
  | k + 1, e, s, he, h => by
    rw [rowL] at h ⊢
    cases ho : Syn.one W s ts with
    | false => exact he
    | true =>
      rw [ho, if_pos rfl] at h
      rw [if_pos rfl]
      obtain ⟨_, h1, _⟩ := one_true ho
      simp only at h ⊢
      have h2 : (f (part W s)).2.err = 0 := by
        by_cases q : (f (part W s)).2.err = 0
        · exact q
        · rw [rowL_bad _ _ q] at h; exact h
      exact rowL_ok hn hts k _ _ (wf_bin (hts _ h1) he (hn.ok _ h2)) h
theorem Gd.row {f : P} (hn : Gd f) {ts : List Bs} (hts : ∀ t ∈ ts, ∃ o ∈ opsW, o.text = t) : Gd (Syn.row W f ts) := ⟨row_stk hn.stk ts, fun s h => by
  unfold Syn.row at h ⊢
  simp only at h ⊢
  have h1 : (f s).2.err = 0 := by
    by_cases q : (f s).2.err = 0
    · exact q
    · rw [rowL_bad _ _ q] at h; exact h
  exact rowL_ok hn hts _ _ _ (hn.ok s h1) h⟩
theorem Gd.right {f : P} (hn : Gd f) {t : Bs} {last : Bool} {below : P} (ht : ∃ o ∈ opsW, o.text = t) (hb : last = false → Gd below) : Gd (Syn.right W f t last below) := ⟨right_stk hn.stk _ _ _, fun s h => by
  unfold Syn.right at h ⊢
  simp only at h ⊢
  cases hi : Syn.is W (f s).2 t with
  | false =>
    rw [hi, if_neg (by decide)] at h
    exact hn.ok s h
  | true =>
    rw [hi, if_pos rfl] at h
    rw [if_pos rfl]
    have h1 := (is_true hi).1
    by_cases q : (deeper W last (part W (f s).2)).2.err = 0
    · obtain ⟨_, hl, hd⟩ := deeper_err0 q
      rw [hd] at h ⊢
      simp only [if_true] at h ⊢
      exact wf_bin ht (hn.ok s h1) ((hb hl).ok _ h)
    · have hd : (deeper W last (part W (f s).2)).1 = false := by
        unfold deeper at q ⊢
        simpa using q
      rw [hd] at h
      exact absurd h q⟩
theorem Gd.cmp {f : P} (hn : Gd f) : Gd (Syn.cmp W f) := ⟨cmp_stk hn.stk, fun s h => by
  unfold Syn.cmp at h ⊢
  simp only at h ⊢
  cases ho : Syn.one W (f s).2 [[61], [60, 62], [60], [60, 61], [62], [62, 61]] with
  | false =>
    rw [ho, if_neg (by decide)] at h
    exact hn.ok s h
  | true =>
    rw [ho, if_pos rfl] at h
    rw [if_pos rfl]
    obtain ⟨h1, h2, _⟩ := one_true ho
    exact wf_bin ((by decide +kernel : ∀ t ∈ ([[61], [60, 62], [60], [60, 61], [62], [62, 61]] : List Bs), ∃ o ∈ opsW, o.text = t) _ h2) (hn.ok s h1) (hn.ok _ h)⟩
theorem whenL_ok (hG : WsG W) : ∀ (k : Nat) (e : Ex) (s : St), WfE e → (whenL W k e s).2.err = 0 → WfE (whenL W k e s).1
  | 0, e, s, he, h => he
  | k + 1, e, s, he, h => by
    rw [whenL] at h ⊢
    cases hi : Syn.is W s [119, 104, 101, 110] with
    | false => exact he
    | true =>
      rw [hi, if_pos rfl] at h
      rw [if_pos rfl]
      simp only at h ⊢
      have h1 : (name W (take W (part W s) [110, 111, 116]).2).2.err = 0 := by
        by_cases q : (name W (take W (part W s) [110, 111, 116]).2).2.err = 0
        · exact q
        · rw [whenL_bad q] at h; exact h
      refine whenL_ok hG k _ _ ?_ h
      obtain ⟨w, t, he⟩ := he
      have hn := name_ok hG h1
      cases (take W (part W s) [110, 111, 116]).1
      · exact ⟨_, _, .whn hn he⟩
      · exact ⟨_, _, .whnot hn he⟩
theorem Gd.when_ (hG : WsG W) {f : P} (hn : Gd f) : Gd (Syn.when_ W f) := ⟨when_stk hn.stk, fun s h => by
  unfold Syn.when_ at h ⊢
  simp only at h ⊢
  have h1 : (f s).2.err = 0 := by
    by_cases q : (f s).2.err = 0
    · exact q
    · rw [whenL_bad q] at h; exact h
  exact whenL_ok hG _ _ _ (hn.ok s h1) h⟩
theorem Gd.inner {last : Bool} {below : P} (hb : last = false → Gd below) : Gd (Syn.inner W last below) := ⟨inner_stk _ _, fun s h => by
  unfold Syn.inner at h ⊢
  simp only at h ⊢
  by_cases q : (deeper W last s).2.err = 0
  · obtain ⟨_, hl, hd⟩ := deeper_err0 q
    rw [hd] at h ⊢
    simp only [if_true] at h ⊢
    exact (hb hl).ok _ h
  · have hd : (deeper W last s).1 = false := by
      unfold deeper at q ⊢
      simpa using q
    rw [hd] at h
    exact absurd h q⟩
theorem Gd.un {pr below : P} {last : Bool} (hp : Gd pr) (hb : last = false → Gd below) : Gd (Syn.un W pr last below) := ⟨un_stk hp.stk _ _, fun s h => by
  unfold Syn.un at h ⊢
  cases ho : Syn.one W s [[110, 111, 116], [45], [112, 114, 101]] with
  | false =>
    rw [ho, if_neg (by decide)] at h
    exact hp.ok s h
  | true =>
    rw [ho, if_pos rfl] at h
    rw [if_pos rfl]
    obtain ⟨h1, h2, _⟩ := one_true ho
    simp only at h ⊢
    by_cases q : (deeper W last (part W s)).2.err = 0
    · obtain ⟨_, hl, hd⟩ := deeper_err0 q
      rw [hd] at h ⊢
      simp only [if_true] at h ⊢
      obtain ⟨w, t, hk⟩ := (hb hl).ok _ h
      have hx : ∃ o, ((if (at_ W s).2.text = [45] then [110, 101, 103] else (at_ W s).2.text), o) ∈ unsW := by
        have : ∀ t ∈ ([[110, 111, 116], [45], [112, 114, 101]] : List Bs), ∃ p ∈ unsW, p.1 = (if t = [45] then [110, 101, 103] else t) := by decide +kernel
        obtain ⟨⟨a, o⟩, hp, he⟩ := this _ h2
        exact ⟨o, he ▸ hp⟩
      obtain ⟨o, ho⟩ := hx
      exact ⟨_, _, .un ho hk⟩
    · have hd : (deeper W last (part W s)).1 = false := by
        unfold deeper at q ⊢
        simpa using q
      rw [hd] at h
      exact absurd h q⟩
end Go.Syn

namespace Go.Syn
open Go.Lex
set_option linter.unusedVariables false
set_option linter.unusedSimpArgs false
variable {W : Ws}
theorem argsL_wf {inn : P} (hi : Gd inn) : ∀ (k : Nat) (l : List Ex) (s : St), (∀ e ∈ l, WfE e) → (argsL W inn k l s).2.err = 0 → ∀ e ∈ (argsL W inn k l s).1, WfE e
  | 0, l, s, hl, h => hl
  | k + 1, l, s, hl, h => by
    rw [argsL] at h ⊢
    cases hq : Syn.is W s [44] with
    | false => exact hl
    | true =>
      rw [hq, if_pos rfl] at h
      rw [if_pos rfl]
      simp only at h ⊢
      have h2 : (inn { s with i := s.i + 1 }).2.err = 0 := by
        by_cases q : (inn { s with i := s.i + 1 }).2.err = 0
        · exact q
        · rw [argsL_bad _ q] at h; exact h
      refine argsL_wf hi k _ _ (fun e he => ?_) h
      rcases List.mem_append.1 he with he | he
      · exact hl e he
      · rw [List.mem_singleton.1 he]; exact hi.ok _ h2
theorem arguments_wf {inn : P} (hi : Gd inn) {s : St} (h : (arguments W inn s).2.err = 0) : ∀ e ∈ (arguments W inn s).1, WfE e := by
  unfold arguments at h ⊢
  cases hq : Syn.is W s [41] with
  | true => rw [if_pos rfl]; intro e he; simp at he
  | false =>
    rw [hq, if_neg (by decide)] at h
    rw [if_neg (by decide)]
    simp only at h ⊢
    have h1 := want1_err0 h
    have h2 : (inn s).2.err = 0 := by
      by_cases q : (inn s).2.err = 0
      · exact q
      · rw [argsL_bad _ q] at h1; exact h1
    exact argsL_wf hi _ _ _ (fun e he => by rw [List.mem_singleton.1 he]; exact hi.ok _ h2) h1
theorem wf_trs : ∀ {l : List Ex}, (∀ e ∈ l, WfE e) → ∃ w t, Trs l w t
  | [], _ => ⟨_, _, .nil⟩
  | e :: l, h => by
    obtain ⟨w, t, he⟩ := h e (by simp)
    obtain ⟨ws, ts, hl⟩ := wf_trs fun x hx => h x (List.mem_cons_of_mem _ hx)
    exact ⟨_, _, .cons he hl⟩
theorem wf_call {nm : Bs} {pos : Nat} {l : List Ex} (hn : Wok (nmW nm)) (h : ∀ e ∈ l, WfE e) : WfE (.mk sCall nm 0 pos l) := by
  cases l with
  | nil => exact ⟨_, _, .call0 hn⟩
  | cons e l =>
    obtain ⟨w, t, he⟩ := h e (by simp)
    obtain ⟨ws, ts, hl⟩ := wf_trs fun x hx => h x (List.mem_cons_of_mem _ hx)
    exact ⟨_, _, .call hn he hl⟩
theorem rest_wf (hG : WsG W) {inn mer : P} (hi : Gd inn) (hm : Gd mer) {s0 s : St} (hk : (at_ W s0).2.kind = 3 ∨ (at_ W s0).2.kind = 1 ∨ Syn.one W s0 [sTrue, sFalse, sIf, sMerge] = true)
    (h : (rest W inn mer (at_ W s0) s).2.err = 0) : WfE (rest W inn mer (at_ W s0) s).1 := by
  have hG0 := hG s0
  have hG1 : (at_ W s0).2.kind = 1 → Wok (nmW (at_ W s0).2.text) := hG0.1
  have hG3 := hG0.2
  have hk' : (at_ W s0).2.kind = 3 ∨ (at_ W s0).2.kind = 1 ∨ (at_ W s0).2.text ∈ [sTrue, sFalse, sIf, sMerge] := by
    rcases hk with hk | hk | hk
    · exact .inl hk
    · exact .inr (.inl hk)
    · exact .inr (.inr (one_true hk).2.1)
  generalize at_ W s0 = x at *
  unfold rest at h ⊢
  by_cases c3 : x.2.kind = 3
  · rw [if_pos c3]; exact ⟨_, _, .int (hG3 c3)⟩
  rw [if_neg c3] at h ⊢
  by_cases ct : x.2.text = [116, 114, 117, 101]
  · rw [if_pos ct]; exact ⟨_, _, .tt⟩
  rw [if_neg ct] at h ⊢
  by_cases cf : x.2.text = [102, 97, 108, 115, 101]
  · rw [if_pos cf]; exact ⟨_, _, .ff⟩
  rw [if_neg cf] at h ⊢
  by_cases c1 : x.2.kind = 1
  · rw [if_pos c1] at h ⊢
    cases hq : Syn.is W s [40] with
    | false => rw [if_neg (by decide)]; exact ⟨_, _, .var (hG1 c1)⟩
    | true =>
      rw [hq, if_pos rfl] at h
      rw [if_pos rfl]
      exact wf_call (hG1 c1) (arguments_wf hi h)
  rw [if_neg c1] at h ⊢
  by_cases ci : x.2.text = [105, 102]
  · rw [if_pos ci] at h ⊢
    simp only at h ⊢
    have h3 := want1_err0 (hi.stk.err0 h)
    have h2 := want1_err0 (hi.stk.err0 h3)
    obtain ⟨_, _, a⟩ := hi.ok _ h2
    obtain ⟨_, _, b⟩ := hi.ok _ h3
    obtain ⟨_, _, c⟩ := hi.ok _ h
    rw [ci]
    exact ⟨_, _, .ite a b c⟩
  rw [if_neg ci] at h ⊢
  simp only at h ⊢
  have h2 := hm.stk.err0 h
  have h1 := hm.stk.err0 h2
  obtain ⟨_, _, a⟩ := wf_part (hm.ok _ h2)
  obtain ⟨_, _, b⟩ := wf_part (hm.ok _ h)
  have hme : x.2.text = sMerge := by
    rcases hk' with hk | hk | hk
    · exact absurd hk c3
    · exact absurd hk c1
    · simp only [List.mem_cons, List.not_mem_nil, or_false] at hk
      rcases hk with hk | hk | hk | hk
      · exact absurd hk ct
      · exact absurd hk cf
      · exact absurd hk ci
      · exact hk
  rw [hme]
  exact ⟨_, _, .merge (name_ok hG h1) a b⟩
theorem Gd.prim (hG : WsG W) {inn mer : P} (hi : Gd inn) (hm : Gd mer) : Gd (Syn.prim W inn mer) := ⟨prim_stk _ _, fun s h => by
  unfold Syn.prim at h ⊢
  simp only at h ⊢
  by_cases c0 : s.err ≠ 0
  · rw [if_pos c0] at h; exact absurd h c0
  rw [if_neg c0] at h ⊢
  cases hq : Syn.is W s [40] with
  | true =>
    rw [hq, if_pos rfl] at h
    rw [if_pos rfl]
    exact hi.ok _ (want1_err0 h)
  | false =>
    rw [hq, if_neg (by decide)] at h
    rw [if_neg (by decide)]
    by_cases c : (at_ W s).2.kind = 3 ∨ (at_ W s).2.kind = 1 ∨ Syn.one W s [[116, 114, 117, 101], [102, 97, 108, 115, 101], [105, 102], [109, 101, 114, 103, 101]] = true
    · rw [if_pos c] at h ⊢
      exact rest_wf hG hi hm c h
    · rw [if_neg c] at h
      have e : s.err = 0 := Decidable.not_not.1 c0
      have e2 : (fail W 7 s).err = 7 := fail_err e 7
      rw [e2] at h
      exact absurd h (by decide)⟩
structure LvGd (L : Lv) : Prop where
  expr : Gd L.expr
  fby : Gd L.fby
  un : Gd L.un
  prim : Gd L.prim
/-! Declarations -/
def WfV (v : Va) : Prop := ∃ w, Vd v w
def WfL (v : Va) : Prop := ∃ w, Vl v w
def WfQ (q : Eqn) : Prop := Wok (nmW q.name) ∧ WfE q.e
structure WfN (n : Nd) : Prop where
  name : Wok (nmW n.name)
  ins : ∀ v ∈ n.ins, WfV v
  outs : ∀ v ∈ n.outs, WfV v
  locals : ∀ v ∈ n.locals, WfL v
  eqs : ∀ q ∈ n.eqs, WfQ q
end Go.Syn

namespace Go.Syn
open Go.Lex
set_option linter.unusedVariables false
set_option linter.unusedSimpArgs false
variable {W : Ws}
/-! Texts -/
end Go.Syn

namespace Go.Syn
open Go.Lex
set_option linter.unusedVariables false
set_option linter.unusedSimpArgs false
variable {W : Ws}
mutual
def Ex.wt : Ex → Nat
  | .mk _ _ _ _ kids => 1 + Ex.wts kids
def Ex.wts : List Ex → Nat
  | [] => 0
  | e :: l => e.wt + Ex.wts l
end
theorem wts_append : ∀ a b : List Ex, Ex.wts (a ++ b) = Ex.wts a + Ex.wts b
  | [], b => by simp [Ex.wts]
  | e :: a, b => by simp only [List.cons_append, Ex.wts, wts_append a b]; omega
def nu (W : Ws) (s : St) : Nat := W.length - s.i
theorem nu_succ {s s' : St} (hk : Syn.kind W s ≠ 0) (hi : s'.i = s.i + 1) : nu W s' + 1 ≤ nu W s := by
  have : s.i < W.length := by
    by_cases q : s.i < W.length
    · exact q
    · exfalso
      apply hk
      unfold Syn.kind at_
      rw [List.getD_eq_getElem?_getD, List.getElem?_eq_none (by omega)]
      rfl
  unfold nu
  omega
theorem nu_le {s s' : St} (hi : s.i ≤ s'.i) : nu W s' ≤ nu W s := by unfold nu; omega
theorem fail_same (e : Nat) (s : St) : (fail W e s).i = s.i := by unfold fail; split <;> rfl
theorem nu_part {s : St} (hk : Syn.kind W s ≠ 0) (h : (part W s).err = 0) : nu W (part W s) + 1 ≤ nu W s := by
  refine nu_succ hk ?_
  unfold part at h ⊢
  simp only at h ⊢
  generalize hs1 : (if 300 < wrap (s.parts + 1) then fail W 2 { s with parts := wrap (s.parts + 1) } else { s with parts := wrap (s.parts + 1) }) = s1 at h ⊢
  have h1 : s1.i = s.i := by
    rw [← hs1]
    split
    · exact fail_same _ _
    · rfl
  by_cases q : s1.err = 0
  · rw [if_pos q]
    show s1.i + 1 = s.i + 1
    rw [h1]
  · rw [if_neg q] at h
    exact absurd h q
theorem nu_want1 (s : St) (t : Bs) : nu W (want1 W s t) ≤ nu W s := by
  refine nu_le ?_
  unfold want1
  split
  · simp
  · rw [fail_same]; exact Nat.le_refl _
theorem nu_take (s : St) (t : Bs) : nu W (take W s t).2 ≤ nu W s := by
  refine nu_le ?_
  unfold take
  split
  · simp
  · exact Nat.le_refl _
theorem nu_name (s : St) : nu W (name W s).2 ≤ nu W s := by
  refine nu_le ?_
  unfold name
  simp only
  generalize hs1 : (if Syn.kind W s = 1 then s else fail W 7 s) = s1
  have h1 : s1.i = s.i := by
    rw [← hs1]
    split
    · rfl
    · exact fail_same _ _
  split
  · show s.i ≤ s1.i + 1
    omega
  · show s.i ≤ s1.i
    omega
theorem is_nz {s : St} {t : Bs} (h : Syn.is W s t = true) : Syn.kind W s ≠ 0 := by rcases is_kind h with e | e <;> rw [e] <;> decide
theorem one_nz {s : St} {ts : List Bs} (h : Syn.one W s ts = true) : Syn.kind W s ≠ 0 := by rcases (one_true h).2.2 with e | e <;> rw [e] <;> decide
structure Gw (W : Ws) (f : P) : Prop where
  stk : Stk f
  ok : ∀ s, (f s).2.err = 0 → (f s).1.wt + nu W (f s).2 ≤ nu W s
theorem wt_two (op nm : Bs) (n pos : Nat) (a b : Ex) : (Ex.mk op nm n pos [a, b]).wt = 1 + (a.wt + b.wt) := by simp [Ex.wt, Ex.wts]
theorem wt_one (op nm : Bs) (n pos : Nat) (a : Ex) : (Ex.mk op nm n pos [a]).wt = 1 + a.wt := by simp [Ex.wt, Ex.wts]
theorem wt_zero (op nm : Bs) (n pos : Nat) : (Ex.mk op nm n pos []).wt = 1 := by simp [Ex.wt, Ex.wts]
theorem rowL_wt {f : P} (hn : Gw W f) {ts : List Bs} : ∀ (k : Nat) (e : Ex) (s : St), (rowL W f ts k e s).2.err = 0 → (rowL W f ts k e s).1.wt + nu W (rowL W f ts k e s).2 ≤ e.wt + nu W s
  | 0, e, s, h => Nat.le_refl _
  | k + 1, e, s, h => by
    rw [rowL] at h ⊢
    cases ho : Syn.one W s ts with
    | false => exact Nat.le_refl _
    | true =>
      rw [ho, if_pos rfl] at h
      rw [if_pos rfl]
      simp only at h ⊢
      have h2 : (f (part W s)).2.err = 0 := by
        by_cases q : (f (part W s)).2.err = 0
        · exact q
        · rw [rowL_bad _ _ q] at h; exact h
      have h3 := nu_part (one_nz ho) (hn.stk.err0 h2)
      have h4 := hn.ok _ h2
      have h5 := rowL_wt hn k _ _ h
      rw [wt_two] at h5
      omega
theorem Gw.row {f : P} (hn : Gw W f) (ts : List Bs) : Gw W (Syn.row W f ts) := ⟨row_stk hn.stk ts, fun s h => by
  unfold Syn.row at h ⊢
  simp only at h ⊢
  have h1 : (f s).2.err = 0 := by
    by_cases q : (f s).2.err = 0
    · exact q
    · rw [rowL_bad _ _ q] at h; exact h
  have h2 := rowL_wt hn _ _ _ h
  have h3 := hn.ok s h1
  omega⟩
theorem Gw.right {f : P} (hn : Gw W f) {t : Bs} {last : Bool} {below : P} (hb : last = false → Gw W below) : Gw W (Syn.right W f t last below) := ⟨right_stk hn.stk _ _ _, fun s h => by
  unfold Syn.right at h ⊢
  simp only at h ⊢
  cases hi : Syn.is W (f s).2 t with
  | false =>
    rw [hi, if_neg (by decide)] at h
    exact hn.ok s h
  | true =>
    rw [hi, if_pos rfl] at h
    rw [if_pos rfl]
    have h1 := (is_true hi).1
    by_cases q : (deeper W last (part W (f s).2)).2.err = 0
    · obtain ⟨hp, hl, hd⟩ := deeper_err0 q
      rw [hd] at h ⊢
      simp only [if_true] at h ⊢
      have a := hn.ok s h1
      have b := (hb hl).ok _ h
      have c := nu_part (is_nz hi) hp
      rw [wt_two]
      omega
    · have hd : (deeper W last (part W (f s).2)).1 = false := by
        unfold deeper at q ⊢
        simpa using q
      rw [hd] at h
      exact absurd h q⟩
theorem Gw.cmp {f : P} (hn : Gw W f) : Gw W (Syn.cmp W f) := ⟨cmp_stk hn.stk, fun s h => by
  unfold Syn.cmp at h ⊢
  simp only at h ⊢
  cases ho : Syn.one W (f s).2 [[61], [60, 62], [60], [60, 61], [62], [62, 61]] with
  | false =>
    rw [ho, if_neg (by decide)] at h
    exact hn.ok s h
  | true =>
    rw [ho, if_pos rfl] at h
    rw [if_pos rfl]
    simp only at h ⊢
    have a := hn.ok s (one_true ho).1
    have b := hn.ok _ h
    have c := nu_part (one_nz ho) (hn.stk.err0 h)
    rw [wt_two]
    omega⟩
theorem whenL_wt : ∀ (k : Nat) (e : Ex) (s : St), (whenL W k e s).2.err = 0 → (whenL W k e s).1.wt + nu W (whenL W k e s).2 ≤ e.wt + nu W s
  | 0, e, s, h => Nat.le_refl _
  | k + 1, e, s, h => by
    rw [whenL] at h ⊢
    cases hi : Syn.is W s [119, 104, 101, 110] with
    | false => exact Nat.le_refl _
    | true =>
      rw [hi, if_pos rfl] at h
      rw [if_pos rfl]
      simp only at h ⊢
      have h1 : (name W (take W (part W s) [110, 111, 116]).2).2.err = 0 := by
        by_cases q : (name W (take W (part W s) [110, 111, 116]).2).2.err = 0
        · exact q
        · rw [whenL_bad q] at h; exact h
      have h2 := (name_err0 h1).1
      rw [take_err] at h2
      have a := nu_part (is_nz hi) h2
      have b := nu_take (W := W) (part W s) [110, 111, 116]
      have c := nu_name (W := W) (take W (part W s) [110, 111, 116]).2
      have d := whenL_wt k _ _ h
      rw [wt_one] at d
      omega
theorem Gw.when_ {f : P} (hn : Gw W f) : Gw W (Syn.when_ W f) := ⟨when_stk hn.stk, fun s h => by
  unfold Syn.when_ at h ⊢
  simp only at h ⊢
  have h1 : (f s).2.err = 0 := by
    by_cases q : (f s).2.err = 0
    · exact q
    · rw [whenL_bad q] at h; exact h
  have a := hn.ok s h1
  have b := whenL_wt _ _ _ h
  omega⟩
theorem Gw.inner {last : Bool} {below : P} (hb : last = false → Gw W below) : Gw W (Syn.inner W last below) := ⟨inner_stk _ _, fun s h => by
  unfold Syn.inner at h ⊢
  simp only at h ⊢
  by_cases q : (deeper W last s).2.err = 0
  · obtain ⟨_, hl, hd⟩ := deeper_err0 q
    rw [hd] at h ⊢
    simp only [if_true] at h ⊢
    exact (hb hl).ok _ h
  · have hd : (deeper W last s).1 = false := by
      unfold deeper at q ⊢
      simpa using q
    rw [hd] at h
    exact absurd h q⟩
theorem Gw.un {pr below : P} {last : Bool} (hp : Gw W pr) (hb : last = false → Gw W below) : Gw W (Syn.un W pr last below) := ⟨un_stk hp.stk _ _, fun s h => by
  unfold Syn.un at h ⊢
  cases ho : Syn.one W s [[110, 111, 116], [45], [112, 114, 101]] with
  | false =>
    rw [ho, if_neg (by decide)] at h
    exact hp.ok s h
  | true =>
    rw [ho, if_pos rfl] at h
    rw [if_pos rfl]
    simp only at h ⊢
    by_cases q : (deeper W last (part W s)).2.err = 0
    · obtain ⟨hq, hl, hd⟩ := deeper_err0 q
      rw [hd] at h ⊢
      simp only [if_true] at h ⊢
      have a := (hb hl).ok _ h
      have c := nu_part (one_nz ho) hq
      rw [wt_one]
      omega
    · have hd : (deeper W last (part W s)).1 = false := by
        unfold deeper at q ⊢
        simpa using q
      rw [hd] at h
      exact absurd h q⟩
theorem argsL_wt {inn : P} (hi : Gw W inn) : ∀ (k : Nat) (l : List Ex) (s : St), (argsL W inn k l s).2.err = 0 → Ex.wts (argsL W inn k l s).1 + nu W (argsL W inn k l s).2 ≤ Ex.wts l + nu W s
  | 0, l, s, h => Nat.le_refl _
  | k + 1, l, s, h => by
    rw [argsL] at h ⊢
    cases hq : Syn.is W s [44] with
    | false => exact Nat.le_refl _
    | true =>
      rw [hq, if_pos rfl] at h
      rw [if_pos rfl]
      simp only at h ⊢
      have h2 : (inn { s with i := s.i + 1 }).2.err = 0 := by
        by_cases q : (inn { s with i := s.i + 1 }).2.err = 0
        · exact q
        · rw [argsL_bad _ q] at h; exact h
      have a := hi.ok _ h2
      have b := argsL_wt hi k _ _ h
      have c : nu W { s with i := s.i + 1 } ≤ nu W s := nu_le (Nat.le_succ _)
      rw [wts_append] at b
      simp only [Ex.wts] at b
      omega
theorem arguments_wt {inn : P} (hi : Gw W inn) {s : St} (h : (arguments W inn s).2.err = 0) : Ex.wts (arguments W inn s).1 + nu W (arguments W inn s).2 ≤ nu W s := by
  unfold arguments at h ⊢
  cases hq : Syn.is W s [41] with
  | true =>
    rw [if_pos rfl]
    have c : nu W { s with i := s.i + 1 } ≤ nu W s := nu_le (Nat.le_succ _)
    simpa [Ex.wts] using c
  | false =>
    rw [hq, if_neg (by decide)] at h
    rw [if_neg (by decide)]
    simp only at h ⊢
    have h1 := want1_err0 h
    have h2 : (inn s).2.err = 0 := by
      by_cases q : (inn s).2.err = 0
      · exact q
      · rw [argsL_bad _ q] at h1; exact h1
    have a := hi.ok _ h2
    have b := argsL_wt hi _ _ _ h1
    have c := nu_want1 (W := W) (argsL W inn (W.length + 1) [(inn s).1] (inn s).2).2 [41]
    simp only [Ex.wts] at b
    omega
theorem rest_wt {inn mer : P} (hi : Gw W inn) (hm : Gw W mer) {x : Nat × Wd} {s : St} (h : (rest W inn mer x s).2.err = 0) : (rest W inn mer x s).1.wt + nu W (rest W inn mer x s).2 ≤ 1 + nu W s := by
  unfold rest at h ⊢
  by_cases c3 : x.2.kind = 3
  · rw [if_pos c3, wt_zero]; exact Nat.le_refl _
  rw [if_neg c3] at h ⊢
  by_cases ct : x.2.text = [116, 114, 117, 101]
  · rw [if_pos ct, wt_zero]; exact Nat.le_refl _
  rw [if_neg ct] at h ⊢
  by_cases cf : x.2.text = [102, 97, 108, 115, 101]
  · rw [if_pos cf, wt_zero]; exact Nat.le_refl _
  rw [if_neg cf] at h ⊢
  by_cases c1 : x.2.kind = 1
  · rw [if_pos c1] at h ⊢
    cases hq : Syn.is W s [40] with
    | false => rw [if_neg (by decide), wt_zero]; exact Nat.le_refl _
    | true =>
      rw [hq, if_pos rfl] at h
      rw [if_pos rfl]
      have a := arguments_wt hi h
      have c : nu W { s with i := s.i + 1 } ≤ nu W s := nu_le (Nat.le_succ _)
      show (Ex.mk _ _ _ _ (arguments W inn { s with i := s.i + 1 }).1).wt + nu W (arguments W inn { s with i := s.i + 1 }).2 ≤ _
      simp only [Ex.wt]
      omega
  rw [if_neg c1] at h ⊢
  by_cases ci : x.2.text = [105, 102]
  · rw [if_pos ci] at h ⊢
    simp only at h ⊢
    have h3 := want1_err0 (hi.stk.err0 h)
    have h2 := want1_err0 (hi.stk.err0 h3)
    have a := hi.ok _ h2
    have b := hi.ok _ h3
    have c := hi.ok _ h
    have d := nu_want1 (W := W) (inn s).2 [116, 104, 101, 110]
    have e := nu_want1 (W := W) (inn (want1 W (inn s).2 [116, 104, 101, 110])).2 [101, 108, 115, 101]
    simp only [Ex.wt, Ex.wts]
    omega
  rw [if_neg ci] at h ⊢
  simp only at h ⊢
  have h2 := hm.stk.err0 h
  have a := hm.ok _ h2
  have b := hm.ok _ h
  have c := nu_name (W := W) s
  rw [wt_two]
  omega
theorem Gw.prim {inn mer : P} (hi : Gw W inn) (hm : Gw W mer) : Gw W (Syn.prim W inn mer) := ⟨prim_stk _ _, fun s h => by
  unfold Syn.prim at h ⊢
  simp only at h ⊢
  by_cases c0 : s.err ≠ 0
  · rw [if_pos c0] at h; exact absurd h c0
  rw [if_neg c0] at h ⊢
  cases hq : Syn.is W s [40] with
  | true =>
    rw [hq, if_pos rfl] at h
    rw [if_pos rfl]
    have a := hi.ok _ (want1_err0 h)
    have b := nu_want1 (W := W) (inn { s with i := s.i + 1 }).2 [41]
    have c : nu W { s with i := s.i + 1 } ≤ nu W s := nu_le (Nat.le_succ _)
    show (inn { s with i := s.i + 1 }).1.wt + nu W (want1 W (inn { s with i := s.i + 1 }).2 [41]) ≤ _
    omega
  | false =>
    rw [hq, if_neg (by decide)] at h
    rw [if_neg (by decide)]
    by_cases c : (at_ W s).2.kind = 3 ∨ (at_ W s).2.kind = 1 ∨ Syn.one W s [[116, 114, 117, 101], [102, 97, 108, 115, 101], [105, 102], [109, 101, 114, 103, 101]] = true
    · rw [if_pos c] at h ⊢
      have hk : Syn.kind W s ≠ 0 := by
        rcases c with c | c | c
        · show (at_ W s).2.kind ≠ 0
          omega
        · show (at_ W s).2.kind ≠ 0
          omega
        · exact one_nz c
      have hp : (part W s).err = 0 := by
        by_cases q : (part W s).err = 0
        · exact q
        · exfalso
          have : (rest W inn mer (at_ W s) (part W s)).2.err = (part W s).err := by
            unfold rest
            split
            · rfl
            split
            · rfl
            split
            · rfl
            split
            · rw [is_bad q]; rfl
            split
            · simp only
              have a := hi.stk _ q
              rw [want1_bad (s := (inn (part W s)).2) (by rw [a]; exact q)]
              have b := hi.stk (inn (part W s)).2 (by rw [a]; exact q)
              rw [want1_bad (s := (inn (inn (part W s)).2).2) (by rw [b, a]; exact q)]
              have c := hi.stk (inn (inn (part W s)).2).2 (by rw [b, a]; exact q)
              rw [c, b, a]
            · simp only
              rw [name_bad q]
              simp only
              have a := hm.stk _ q
              have b := hm.stk (mer (part W s)).2 (by rw [a]; exact q)
              rw [b, a]
          rw [this] at h
          exact q h
      have a := rest_wt hi hm h
      have b := nu_part hk hp
      omega
    · rw [if_neg c] at h
      have e : s.err = 0 := Decidable.not_not.1 c0
      have e2 : (fail W 7 s).err = 7 := fail_err e 7
      rw [e2] at h
      exact absurd h (by decide)⟩
structure LvGw (W : Ws) (L : Lv) : Prop where
  expr : Gw W L.expr
  fby : Gw W L.fby
  un : Gw W L.un
  prim : Gw W L.prim
/-! How long the texts are -/
theorem nm_len {nm : Bs} (h : Wok (nmW nm)) : nm.length ≤ 24 := by
  obtain ⟨s, h⟩ := h
  cases s with
  | nil => simp [wordS] at h
  | cons c q =>
    simp only [wordS] at h
    split at h
    · split at h
      · simp [nmW] at h
      · split at h
        · rename_i h24
          simp only [Option.some.injEq, nmW, Wd.mk.injEq, true_and, and_true] at h
          rw [← h]; exact h24
        · simp at h
    · split at h
      · split at h
        · simp [nmW] at h
        · simp at h
      · split at h
        · simp [nmW] at h
        · simp at h
theorem dec_len (n : Nat) (h : n < 9223372036854775808) : (dec n).length ≤ 19 := by
  have key : ∀ (k n : Nat), n < 10 ^ k → 0 < k → (dec n).length ≤ k := by
    intro k
    induction k with
    | zero => intro n _ h; omega
    | succ k ih =>
      intro n hn _
      rw [dec]
      split
      · simp
      · rename_i h10
        have hk : 0 < k := by
          cases k with
          | zero => simp at hn; omega
          | succ k => omega
        have := ih (n / 10) (by rw [Nat.pow_succ] at hn; omega) hk
        simp only [List.length_append, List.length_singleton]
        omega
  exact key 19 n (Nat.lt_of_lt_of_le h (by decide)) (by decide)
theorem op_len {o : Wd} (h : o ∈ opsW) : o.text.length ≤ 3 := (by decide +kernel : ∀ o ∈ opsW, o.text.length ≤ 3) o h
theorem un_len {op : Bs} {o : Wd} (h : (op, o) ∈ unsW) : o.text.length ≤ 3 := (by decide +kernel : ∀ p ∈ unsW, p.2.text.length ≤ 3) _ h
mutual
theorem tr_len : ∀ {e : Ex} {w : List Wd} {t : Bs}, Tr e w t → t.length + 2 ≤ 64 * e.wt
  | _, _, _, .int h => by have := dec_len _ h; rw [wt_zero]; omega
  | _, _, _, .tt => by rw [wt_zero]; decide
  | _, _, _, .ff => by rw [wt_zero]; decide
  | _, _, _, .var h => by have := nm_len h; rw [wt_zero]; omega
  | _, _, _, .call0 h => by have := nm_len h; rw [wt_zero]; simp only [List.length_append, List.length_cons, List.length_nil]; omega
  | _, _, _, .call h he hl => by
    have a := nm_len h
    have b := tr_len he
    have c := trs_len2 hl
    simp only [Ex.wt, Ex.wts, List.length_append, List.length_cons, List.length_nil]
    omega
  | _, _, _, .un ho hk => by
    have a := un_len ho
    have b := tr_len hk
    rw [wt_one]
    simp only [List.length_append, List.length_cons, List.length_nil]
    omega
  | _, _, _, .whn h hk => by
    have a := nm_len h
    have b := tr_len hk
    rw [wt_one]
    simp only [List.length_append, List.length_cons, List.length_nil, show sWhen.length = 4 from rfl]
    omega
  | _, _, _, .whnot h hk => by
    have a := nm_len h
    have b := tr_len hk
    rw [wt_one]
    simp only [List.length_append, List.length_cons, List.length_nil, show sWhen.length = 4 from rfl, show sNot.length = 3 from rfl]
    omega
  | _, _, _, .ite ha hb hc => by
    have a := tr_len ha
    have b := tr_len hb
    have c := tr_len hc
    simp only [Ex.wt, Ex.wts, List.length_append, List.length_cons, List.length_nil, show sIf.length = 2 from rfl, show sThen.length = 4 from rfl, show sElse.length = 4 from rfl]
    omega
  | _, _, _, .merge h ha hb => by
    have n := nm_len h
    have a := trp_len ha
    have b := trp_len hb
    rw [wt_two]
    simp only [List.length_append, List.length_cons, List.length_nil, show sMerge.length = 5 from rfl]
    omega
  | _, _, _, .bin ho ha hb => by
    have n := op_len ho
    have a := tr_len ha
    have b := tr_len hb
    rw [wt_two]
    simp only [List.length_append, List.length_cons, List.length_nil]
    omega
theorem trs_len2 : ∀ {l : List Ex} {w : List Wd} {t : Bs}, Trs l w t → t.length ≤ 64 * Ex.wts l
  | _, _, _, .nil => Nat.zero_le _
  | _, _, _, .cons he hl => by
    have a := tr_len he
    have b := trs_len2 hl
    simp only [Ex.wts, List.length_append, List.length_cons]
    omega
theorem trp_len : ∀ {e : Ex} {w : List Wd} {t : Bs}, Trp e w t → t.length + 2 ≤ 64 * e.wt
  | _, _, _, .var h => by have := nm_len h; rw [wt_zero]; simp only [List.length_append, List.length_cons, List.length_nil]; omega
  | _, _, _, .of _ h => tr_len h
end
end Go.Syn

namespace Go.Syn
open Go.Lex
set_option linter.unusedVariables false
set_option linter.unusedSimpArgs false
variable {W : Ws}
def eqsWt : List Eqn → Nat
  | [] => 0
  | q :: l => (1 + q.e.wt) + eqsWt l
def Nd.wt (n : Nd) : Nat := 1 + (n.ins.length + n.outs.length + n.locals.length + eqsWt n.eqs)
/-! The texts' lengths -/
end Go.Syn

namespace Go.Syn
open Go.Lex
set_option linter.unusedVariables false
set_option linter.unusedSimpArgs false
def sepC : List Bs → Bs
  | [] => []
  | t :: l => 44 :: 32 :: (t ++ sepC l)
def joinC : List Bs → Bs
  | [] => []
  | t :: l => t ++ sepC l
def txO (op nm : Bs) (n : Nat) (l p : List Bs) : Bs :=
  if op = sInt then dec n else
  if op = sBool then (if n = 0 then sFalse else sTrue) else
  if op = sVar then nm else
  if op = sCall then nm ++ (40 :: (joinC l ++ [41])) else
  if op = sWhen then (match l with | [t] => 40 :: (t ++ (32 :: (sWhen ++ (32 :: ((if n = 0 then sNot ++ [32] else []) ++ (nm ++ [41])))))) | _ => []) else
  if op = sIf then (match l with | [ta, tb, tc] => 40 :: (sIf ++ (32 :: (ta ++ (32 :: (sThen ++ (32 :: (tb ++ (32 :: (sElse ++ (32 :: (tc ++ [41])))))))))))  | _ => []) else
  if op = sMerge then (match p with | [ta, tb] => 40 :: (sMerge ++ (32 :: (nm ++ (32 :: (ta ++ (32 :: (tb ++ [41]))))))) | _ => []) else
  match l with
  | [t] => 40 :: ((if op = sNeg then [45] else op) ++ (32 :: (t ++ [41])))
  | [ta, tb] => 40 :: (ta ++ (32 :: (op ++ (32 :: (tb ++ [41])))))
  | _ => []
def Ex.op : Ex → Bs
  | .mk op _ _ _ _ => op
mutual
def tx : Ex → Bs
  | .mk op nm n _ ks => txO op nm n (txs ks) (txps ks)
def txs : List Ex → List Bs
  | [] => []
  | e :: l => tx e :: txs l
def txps : List Ex → List Bs
  | [] => []
  | e :: l => (if e.op = sVar then 40 :: (tx e ++ [41]) else tx e) :: txps l
end
theorem er_op (e : Ex) : e.er.op = e.op := by cases e; simp [Ex.er, Ex.op]
mutual
theorem tx_er : ∀ e : Ex, tx e.er = tx e
  | .mk op nm n pos ks => by
    rw [Ex.er, tx, tx, txs_er ks, txps_er ks]
theorem txs_er : ∀ l : List Ex, txs (Ex.ers l) = txs l
  | [] => rfl
  | e :: l => by rw [Ex.ers, txs, txs, tx_er e, txs_er l]
theorem txps_er : ∀ l : List Ex, txps (Ex.ers l) = txps l
  | [] => rfl
  | e :: l => by rw [Ex.ers, txps, txps, tx_er e, txps_er l, er_op]
end
theorem ops_key {o : Wd} (h : o ∈ opsW) : o.text ≠ sInt ∧ o.text ≠ sBool ∧ o.text ≠ sVar ∧ o.text ≠ sCall ∧ o.text ≠ sWhen ∧ o.text ≠ sIf ∧ o.text ≠ sMerge := (by decide +kernel : ∀ o ∈ opsW, o.text ≠ sInt ∧ o.text ≠ sBool ∧ o.text ≠ sVar ∧ o.text ≠ sCall ∧ o.text ≠ sWhen ∧ o.text ≠ sIf ∧ o.text ≠ sMerge) o h
mutual
theorem tr_tx : ∀ {e : Ex} {w : List Wd} {t : Bs}, Tr e w t → t = tx e
  | _, _, _, .int h => by simp [tx, txO]
  | _, _, _, .tt => by rw [tx]; rfl
  | _, _, _, .ff => by rw [tx]; rfl
  | _, _, _, .var h => by rw [tx]; rfl
  | _, _, _, .call0 h => by rw [tx, txs, txps]; rfl
  | _, _, _, @Tr.call nm pos e l w ws t ts h he hl => by
    have h1 := tr_tx he
    have h2 := trs_tx hl
    subst h1
    subst h2
    rw [tx, txs]
    show nm ++ (40 :: (tx e ++ (sepC (txs l) ++ [41]))) = nm ++ (40 :: (joinC (tx e :: txs l) ++ [41]))
    rw [joinC, List.append_assoc]
  | _, _, _, @Tr.un op o pos k w t ho hk => by
    have h := tr_tx hk
    subst h
    rw [tx, txs, txs, txps, txps]
    simp only [unsW, List.mem_cons, Prod.mk.injEq, List.not_mem_nil, or_false] at ho
    rcases ho with ⟨rfl, rfl⟩ | ⟨rfl, rfl⟩ | ⟨rfl, rfl⟩ <;> rfl
  | _, _, _, .whn h hk => by
    rw [tx, txs, txs, ← tr_tx hk]; rfl
  | _, _, _, .whnot h hk => by
    rw [tx, txs, txs, ← tr_tx hk]; rfl
  | _, _, _, .ite ha hb hc => by
    rw [tx, txs, txs, txs, txs, ← tr_tx ha, ← tr_tx hb, ← tr_tx hc]; rfl
  | _, _, _, .merge h ha hb => by
    rw [tx, txps, txps, txps, ← trp_tx ha, ← trp_tx hb]; rfl
  | _, _, _, @Tr.bin o pos a b u v ta tb ho ha hb => by
    obtain ⟨h1, h2, h3, h4, h5, h6, h7⟩ := ops_key ho
    rw [tx, txs, txs, txs, txps, txps, txps, ← tr_tx ha, ← tr_tx hb, txO, if_neg h1, if_neg h2, if_neg h3, if_neg h4, if_neg h5, if_neg h6, if_neg h7]
theorem trs_tx : ∀ {l : List Ex} {w : List Wd} {t : Bs}, Trs l w t → t = sepC (txs l)
  | _, _, _, .nil => rfl
  | _, _, _, .cons he hl => by rw [txs, sepC, ← tr_tx he, ← trs_tx hl]
theorem trp_tx : ∀ {e : Ex} {w : List Wd} {t : Bs}, Trp e w t → t = (if e.op = sVar then 40 :: (tx e ++ [41]) else tx e)
  | _, _, _, .var h => by rw [tx]; rfl
  | _, _, _, @Trp.of op nm n pos ks w t hn h => by
    rw [if_neg (show ¬ (Ex.mk op nm n pos ks).op = sVar from hn)]; exact tr_tx h
end
end Go.Syn

namespace Go.Syn
open Go.Lex
set_option linter.unusedVariables false
def nmF (i : Nat) : Bs := [110, UInt8.ofNat (97 + i / 26), UInt8.ofNat (97 + i % 26)]
def lastF : Nat → Bs
  | 0 => [120]
  | i + 1 => nmF i ++ [40, 120, 41]
def bodyF : Bs := [40, 120, 58, 32, 105, 110, 116, 41, 32, 114, 101, 116, 117, 114, 110, 115, 32, 40, 121, 58, 32, 105, 110, 116, 41, 59, 32, 108, 101, 116, 32, 121, 32, 61, 32]
def endF : Bs := [59, 32, 116, 101, 108, 32]
def pieceF (i : Nat) : Bs := [110, 111, 100, 101, 32] ++ (nmF i ++ (bodyF ++ (lastF i ++ endF)))
def textF : Nat → Bs
  | 0 => []
  | i + 1 => textF i ++ pieceF i
def exF : Nat → Nat → Ex
  | 0, p => .mk sVar [120] 0 (p + 43) []
  | i + 1, p => .mk sCall (nmF i) 0 (p + 43) [.mk sVar [120] 0 (p + 47) []]
def posF : Nat → Nat
  | 0 => 0
  | i + 1 => 50 + 55 * i
def ndF (i : Nat) : Nd := ⟨nmF i, [⟨[120], 2, [], false, posF i + 9⟩], [⟨[121], 2, [], false, posF i + 26⟩], [], [⟨[121], exF i (posF i), posF i + 39⟩], posF i⟩
def ndsF : Nat → List Nd
  | 0 => []
  | i + 1 => ndsF i ++ [ndF i]
end Go.Syn

namespace Go.Syn
open Go.Lex
set_option linter.unusedVariables false
def headWF (i p : Nat) : List (Nat × Wd) := [(p, kw sNode), (p + 5, nmW (nmF i)), (p + 8, lp), (p + 9, nmW [120]), (p + 10, colon), (p + 12, kw sInt), (p + 15, rp), (p + 17, kw sReturns), (p + 25, lp), (p + 26, nmW [121]), (p + 27, colon), (p + 29, kw sInt), (p + 32, rp), (p + 33, semi), (p + 35, kw sLet), (p + 39, nmW [121]), (p + 41, eqs_)]
def tailWF : Nat → Nat → List (Nat × Wd)
  | 0, p => [(p + 43, nmW [120]), (p + 44, semi), (p + 46, kw sTel)]
  | i + 1, p => [(p + 43, nmW (nmF i)), (p + 46, lp), (p + 47, nmW [120]), (p + 48, rp), (p + 49, semi), (p + 51, kw sTel)]
def wsF : Nat → List (Nat × Wd)
  | 0 => []
  | i + 1 => wsF i ++ (headWF i (posF i) ++ tailWF i (posF i))
def idxF : Nat → Nat
  | 0 => 0
  | i + 1 => 20 + 23 * i
def stF : Nat → St
  | 0 => ⟨0, 0, 0, 0, 0⟩
  | 1 => ⟨20, 2, 1, 0, 0⟩
  | i + 2 => ⟨43 + 23 * i, 2, 2, 0, 0⟩
end Go.Syn

namespace Go.Syn
open Go Go.Lex
set_option maxRecDepth 1000000
theorem nfa0 (p : Nat) (Q : List (Nat × Wd)) : node (wsF 1 ++ (p, kw sNode) :: Q) (stF 0) = (ndF 0, stF 1) := by kernel_rfl
theorem nfb0 (p : Nat) (Q : List (Nat × Wd)) : node (wsF 1 ++ (p, endW) :: Q) (stF 0) = (ndF 0, stF 1) := by kernel_rfl
theorem nfa1 (p : Nat) (Q : List (Nat × Wd)) : node (wsF 2 ++ (p, kw sNode) :: Q) (stF 1) = (ndF 1, stF 2) := by kernel_rfl
theorem nfb1 (p : Nat) (Q : List (Nat × Wd)) : node (wsF 2 ++ (p, endW) :: Q) (stF 1) = (ndF 1, stF 2) := by kernel_rfl
theorem nfa2 (p : Nat) (Q : List (Nat × Wd)) : node (wsF 3 ++ (p, kw sNode) :: Q) (stF 2) = (ndF 2, stF 3) := by kernel_rfl
theorem nfb2 (p : Nat) (Q : List (Nat × Wd)) : node (wsF 3 ++ (p, endW) :: Q) (stF 2) = (ndF 2, stF 3) := by kernel_rfl
theorem nfa3 (p : Nat) (Q : List (Nat × Wd)) : node (wsF 4 ++ (p, kw sNode) :: Q) (stF 3) = (ndF 3, stF 4) := by kernel_rfl
theorem nfb3 (p : Nat) (Q : List (Nat × Wd)) : node (wsF 4 ++ (p, endW) :: Q) (stF 3) = (ndF 3, stF 4) := by kernel_rfl
theorem nfa4 (p : Nat) (Q : List (Nat × Wd)) : node (wsF 5 ++ (p, kw sNode) :: Q) (stF 4) = (ndF 4, stF 5) := by kernel_rfl
theorem nfb4 (p : Nat) (Q : List (Nat × Wd)) : node (wsF 5 ++ (p, endW) :: Q) (stF 4) = (ndF 4, stF 5) := by kernel_rfl
theorem nfa5 (p : Nat) (Q : List (Nat × Wd)) : node (wsF 6 ++ (p, kw sNode) :: Q) (stF 5) = (ndF 5, stF 6) := by kernel_rfl
theorem nfb5 (p : Nat) (Q : List (Nat × Wd)) : node (wsF 6 ++ (p, endW) :: Q) (stF 5) = (ndF 5, stF 6) := by kernel_rfl
theorem nfa6 (p : Nat) (Q : List (Nat × Wd)) : node (wsF 7 ++ (p, kw sNode) :: Q) (stF 6) = (ndF 6, stF 7) := by kernel_rfl
theorem nfb6 (p : Nat) (Q : List (Nat × Wd)) : node (wsF 7 ++ (p, endW) :: Q) (stF 6) = (ndF 6, stF 7) := by kernel_rfl
theorem nfa7 (p : Nat) (Q : List (Nat × Wd)) : node (wsF 8 ++ (p, kw sNode) :: Q) (stF 7) = (ndF 7, stF 8) := by kernel_rfl
theorem nfb7 (p : Nat) (Q : List (Nat × Wd)) : node (wsF 8 ++ (p, endW) :: Q) (stF 7) = (ndF 7, stF 8) := by kernel_rfl
end Go.Syn

namespace Go.Syn
open Go Go.Lex
set_option maxRecDepth 1000000
theorem nfa8 (p : Nat) (Q : List (Nat × Wd)) : node (wsF 9 ++ (p, kw sNode) :: Q) (stF 8) = (ndF 8, stF 9) := by kernel_rfl
theorem nfb8 (p : Nat) (Q : List (Nat × Wd)) : node (wsF 9 ++ (p, endW) :: Q) (stF 8) = (ndF 8, stF 9) := by kernel_rfl
theorem nfa9 (p : Nat) (Q : List (Nat × Wd)) : node (wsF 10 ++ (p, kw sNode) :: Q) (stF 9) = (ndF 9, stF 10) := by kernel_rfl
theorem nfb9 (p : Nat) (Q : List (Nat × Wd)) : node (wsF 10 ++ (p, endW) :: Q) (stF 9) = (ndF 9, stF 10) := by kernel_rfl
theorem nfa10 (p : Nat) (Q : List (Nat × Wd)) : node (wsF 11 ++ (p, kw sNode) :: Q) (stF 10) = (ndF 10, stF 11) := by kernel_rfl
theorem nfb10 (p : Nat) (Q : List (Nat × Wd)) : node (wsF 11 ++ (p, endW) :: Q) (stF 10) = (ndF 10, stF 11) := by kernel_rfl
theorem nfa11 (p : Nat) (Q : List (Nat × Wd)) : node (wsF 12 ++ (p, kw sNode) :: Q) (stF 11) = (ndF 11, stF 12) := by kernel_rfl
theorem nfb11 (p : Nat) (Q : List (Nat × Wd)) : node (wsF 12 ++ (p, endW) :: Q) (stF 11) = (ndF 11, stF 12) := by kernel_rfl
theorem nfa12 (p : Nat) (Q : List (Nat × Wd)) : node (wsF 13 ++ (p, kw sNode) :: Q) (stF 12) = (ndF 12, stF 13) := by kernel_rfl
theorem nfb12 (p : Nat) (Q : List (Nat × Wd)) : node (wsF 13 ++ (p, endW) :: Q) (stF 12) = (ndF 12, stF 13) := by kernel_rfl
theorem nfa13 (p : Nat) (Q : List (Nat × Wd)) : node (wsF 14 ++ (p, kw sNode) :: Q) (stF 13) = (ndF 13, stF 14) := by kernel_rfl
theorem nfb13 (p : Nat) (Q : List (Nat × Wd)) : node (wsF 14 ++ (p, endW) :: Q) (stF 13) = (ndF 13, stF 14) := by kernel_rfl
theorem nfa14 (p : Nat) (Q : List (Nat × Wd)) : node (wsF 15 ++ (p, kw sNode) :: Q) (stF 14) = (ndF 14, stF 15) := by kernel_rfl
theorem nfb14 (p : Nat) (Q : List (Nat × Wd)) : node (wsF 15 ++ (p, endW) :: Q) (stF 14) = (ndF 14, stF 15) := by kernel_rfl
theorem nfa15 (p : Nat) (Q : List (Nat × Wd)) : node (wsF 16 ++ (p, kw sNode) :: Q) (stF 15) = (ndF 15, stF 16) := by kernel_rfl
theorem nfb15 (p : Nat) (Q : List (Nat × Wd)) : node (wsF 16 ++ (p, endW) :: Q) (stF 15) = (ndF 15, stF 16) := by kernel_rfl
end Go.Syn

namespace Go.Syn
open Go Go.Lex
set_option maxRecDepth 1000000
theorem nfa16 (p : Nat) (Q : List (Nat × Wd)) : node (wsF 17 ++ (p, kw sNode) :: Q) (stF 16) = (ndF 16, stF 17) := by kernel_rfl
theorem nfb16 (p : Nat) (Q : List (Nat × Wd)) : node (wsF 17 ++ (p, endW) :: Q) (stF 16) = (ndF 16, stF 17) := by kernel_rfl
theorem nfa17 (p : Nat) (Q : List (Nat × Wd)) : node (wsF 18 ++ (p, kw sNode) :: Q) (stF 17) = (ndF 17, stF 18) := by kernel_rfl
theorem nfb17 (p : Nat) (Q : List (Nat × Wd)) : node (wsF 18 ++ (p, endW) :: Q) (stF 17) = (ndF 17, stF 18) := by kernel_rfl
theorem nfa18 (p : Nat) (Q : List (Nat × Wd)) : node (wsF 19 ++ (p, kw sNode) :: Q) (stF 18) = (ndF 18, stF 19) := by kernel_rfl
theorem nfb18 (p : Nat) (Q : List (Nat × Wd)) : node (wsF 19 ++ (p, endW) :: Q) (stF 18) = (ndF 18, stF 19) := by kernel_rfl
theorem nfa19 (p : Nat) (Q : List (Nat × Wd)) : node (wsF 20 ++ (p, kw sNode) :: Q) (stF 19) = (ndF 19, stF 20) := by kernel_rfl
theorem nfb19 (p : Nat) (Q : List (Nat × Wd)) : node (wsF 20 ++ (p, endW) :: Q) (stF 19) = (ndF 19, stF 20) := by kernel_rfl
theorem nfa20 (p : Nat) (Q : List (Nat × Wd)) : node (wsF 21 ++ (p, kw sNode) :: Q) (stF 20) = (ndF 20, stF 21) := by kernel_rfl
theorem nfb20 (p : Nat) (Q : List (Nat × Wd)) : node (wsF 21 ++ (p, endW) :: Q) (stF 20) = (ndF 20, stF 21) := by kernel_rfl
theorem nfa21 (p : Nat) (Q : List (Nat × Wd)) : node (wsF 22 ++ (p, kw sNode) :: Q) (stF 21) = (ndF 21, stF 22) := by kernel_rfl
theorem nfb21 (p : Nat) (Q : List (Nat × Wd)) : node (wsF 22 ++ (p, endW) :: Q) (stF 21) = (ndF 21, stF 22) := by kernel_rfl
theorem nfa22 (p : Nat) (Q : List (Nat × Wd)) : node (wsF 23 ++ (p, kw sNode) :: Q) (stF 22) = (ndF 22, stF 23) := by kernel_rfl
theorem nfb22 (p : Nat) (Q : List (Nat × Wd)) : node (wsF 23 ++ (p, endW) :: Q) (stF 22) = (ndF 22, stF 23) := by kernel_rfl
theorem nfa23 (p : Nat) (Q : List (Nat × Wd)) : node (wsF 24 ++ (p, kw sNode) :: Q) (stF 23) = (ndF 23, stF 24) := by kernel_rfl
theorem nfb23 (p : Nat) (Q : List (Nat × Wd)) : node (wsF 24 ++ (p, endW) :: Q) (stF 23) = (ndF 23, stF 24) := by kernel_rfl
end Go.Syn

namespace Go.Syn
open Go Go.Lex
set_option maxRecDepth 1000000
theorem nfa24 (p : Nat) (Q : List (Nat × Wd)) : node (wsF 25 ++ (p, kw sNode) :: Q) (stF 24) = (ndF 24, stF 25) := by kernel_rfl
theorem nfb24 (p : Nat) (Q : List (Nat × Wd)) : node (wsF 25 ++ (p, endW) :: Q) (stF 24) = (ndF 24, stF 25) := by kernel_rfl
theorem nfa25 (p : Nat) (Q : List (Nat × Wd)) : node (wsF 26 ++ (p, kw sNode) :: Q) (stF 25) = (ndF 25, stF 26) := by kernel_rfl
theorem nfb25 (p : Nat) (Q : List (Nat × Wd)) : node (wsF 26 ++ (p, endW) :: Q) (stF 25) = (ndF 25, stF 26) := by kernel_rfl
theorem nfa26 (p : Nat) (Q : List (Nat × Wd)) : node (wsF 27 ++ (p, kw sNode) :: Q) (stF 26) = (ndF 26, stF 27) := by kernel_rfl
theorem nfb26 (p : Nat) (Q : List (Nat × Wd)) : node (wsF 27 ++ (p, endW) :: Q) (stF 26) = (ndF 26, stF 27) := by kernel_rfl
theorem nfa27 (p : Nat) (Q : List (Nat × Wd)) : node (wsF 28 ++ (p, kw sNode) :: Q) (stF 27) = (ndF 27, stF 28) := by kernel_rfl
theorem nfb27 (p : Nat) (Q : List (Nat × Wd)) : node (wsF 28 ++ (p, endW) :: Q) (stF 27) = (ndF 27, stF 28) := by kernel_rfl
theorem nfa28 (p : Nat) (Q : List (Nat × Wd)) : node (wsF 29 ++ (p, kw sNode) :: Q) (stF 28) = (ndF 28, stF 29) := by kernel_rfl
theorem nfb28 (p : Nat) (Q : List (Nat × Wd)) : node (wsF 29 ++ (p, endW) :: Q) (stF 28) = (ndF 28, stF 29) := by kernel_rfl
theorem nfa29 (p : Nat) (Q : List (Nat × Wd)) : node (wsF 30 ++ (p, kw sNode) :: Q) (stF 29) = (ndF 29, stF 30) := by kernel_rfl
theorem nfb29 (p : Nat) (Q : List (Nat × Wd)) : node (wsF 30 ++ (p, endW) :: Q) (stF 29) = (ndF 29, stF 30) := by kernel_rfl
theorem nfa30 (p : Nat) (Q : List (Nat × Wd)) : node (wsF 31 ++ (p, kw sNode) :: Q) (stF 30) = (ndF 30, stF 31) := by kernel_rfl
theorem nfb30 (p : Nat) (Q : List (Nat × Wd)) : node (wsF 31 ++ (p, endW) :: Q) (stF 30) = (ndF 30, stF 31) := by kernel_rfl
theorem nfa31 (p : Nat) (Q : List (Nat × Wd)) : node (wsF 32 ++ (p, kw sNode) :: Q) (stF 31) = (ndF 31, stF 32) := by kernel_rfl
theorem nfb31 (p : Nat) (Q : List (Nat × Wd)) : node (wsF 32 ++ (p, endW) :: Q) (stF 31) = (ndF 31, stF 32) := by kernel_rfl
end Go.Syn

namespace Go.Syn
open Go Go.Lex
theorem nfa : ∀ (i : Nat), i < 32 → ∀ (p : Nat) (Q : List (Nat × Wd)), node (wsF (i + 1) ++ (p, kw sNode) :: Q) (stF i) = (ndF i, stF (i + 1))
  | 0, _ => nfa0
  | 1, _ => nfa1
  | 2, _ => nfa2
  | 3, _ => nfa3
  | 4, _ => nfa4
  | 5, _ => nfa5
  | 6, _ => nfa6
  | 7, _ => nfa7
  | 8, _ => nfa8
  | 9, _ => nfa9
  | 10, _ => nfa10
  | 11, _ => nfa11
  | 12, _ => nfa12
  | 13, _ => nfa13
  | 14, _ => nfa14
  | 15, _ => nfa15
  | 16, _ => nfa16
  | 17, _ => nfa17
  | 18, _ => nfa18
  | 19, _ => nfa19
  | 20, _ => nfa20
  | 21, _ => nfa21
  | 22, _ => nfa22
  | 23, _ => nfa23
  | 24, _ => nfa24
  | 25, _ => nfa25
  | 26, _ => nfa26
  | 27, _ => nfa27
  | 28, _ => nfa28
  | 29, _ => nfa29
  | 30, _ => nfa30
  | 31, _ => nfa31
  | n + 32, h => absurd h (by omega)
theorem nfb : ∀ (i : Nat), i < 32 → ∀ (p : Nat) (Q : List (Nat × Wd)), node (wsF (i + 1) ++ (p, endW) :: Q) (stF i) = (ndF i, stF (i + 1))
  | 0, _ => nfb0
  | 1, _ => nfb1
  | 2, _ => nfb2
  | 3, _ => nfb3
  | 4, _ => nfb4
  | 5, _ => nfb5
  | 6, _ => nfb6
  | 7, _ => nfb7
  | 8, _ => nfb8
  | 9, _ => nfb9
  | 10, _ => nfb10
  | 11, _ => nfb11
  | 12, _ => nfb12
  | 13, _ => nfb13
  | 14, _ => nfb14
  | 15, _ => nfb15
  | 16, _ => nfb16
  | 17, _ => nfb17
  | 18, _ => nfb18
  | 19, _ => nfb19
  | 20, _ => nfb20
  | 21, _ => nfb21
  | 22, _ => nfb22
  | 23, _ => nfb23
  | 24, _ => nfb24
  | 25, _ => nfb25
  | 26, _ => nfb26
  | 27, _ => nfb27
  | 28, _ => nfb28
  | 29, _ => nfb29
  | 30, _ => nfb30
  | 31, _ => nfb31
  | n + 32, h => absurd h (by omega)
end Go.Syn

namespace Go.Syn
open Go Go.Lex
set_option maxRecDepth 1000000
theorem cutF1 : cutS (textF 1).length (textF 1) = .ok (wsF 1) := by kernel_rfl
theorem cutF5 : cutS (textF 5).length (textF 5) = .ok (wsF 5) := by kernel_rfl
theorem cutF9 : cutS (textF 9).length (textF 9) = .ok (wsF 9) := by kernel_rfl
theorem cutF13 : cutS (textF 13).length (textF 13) = .ok (wsF 13) := by kernel_rfl
theorem cutF17 : cutS (textF 17).length (textF 17) = .ok (wsF 17) := by kernel_rfl
theorem cutF21 : cutS (textF 21).length (textF 21) = .ok (wsF 21) := by kernel_rfl
theorem cutF25 : cutS (textF 25).length (textF 25) = .ok (wsF 25) := by kernel_rfl
theorem cutF29 : cutS (textF 29).length (textF 29) = .ok (wsF 29) := by kernel_rfl
theorem cutF33 : cutS (textF 33).length (textF 33) = .ok (wsF 33) := by kernel_rfl
theorem cutF37 : cutS (textF 37).length (textF 37) = .ok (wsF 37) := by kernel_rfl
end Go.Syn

namespace Go.Syn
open Go Go.Lex
set_option maxRecDepth 1000000
theorem cutF2 : cutS (textF 2).length (textF 2) = .ok (wsF 2) := by kernel_rfl
theorem cutF6 : cutS (textF 6).length (textF 6) = .ok (wsF 6) := by kernel_rfl
theorem cutF10 : cutS (textF 10).length (textF 10) = .ok (wsF 10) := by kernel_rfl
theorem cutF14 : cutS (textF 14).length (textF 14) = .ok (wsF 14) := by kernel_rfl
theorem cutF18 : cutS (textF 18).length (textF 18) = .ok (wsF 18) := by kernel_rfl
theorem cutF22 : cutS (textF 22).length (textF 22) = .ok (wsF 22) := by kernel_rfl
theorem cutF26 : cutS (textF 26).length (textF 26) = .ok (wsF 26) := by kernel_rfl
theorem cutF30 : cutS (textF 30).length (textF 30) = .ok (wsF 30) := by kernel_rfl
theorem cutF34 : cutS (textF 34).length (textF 34) = .ok (wsF 34) := by kernel_rfl
theorem cutF38 : cutS (textF 38).length (textF 38) = .ok (wsF 38) := by kernel_rfl
end Go.Syn

namespace Go.Syn
open Go Go.Lex
set_option maxRecDepth 1000000
theorem cutF3 : cutS (textF 3).length (textF 3) = .ok (wsF 3) := by kernel_rfl
theorem cutF7 : cutS (textF 7).length (textF 7) = .ok (wsF 7) := by kernel_rfl
theorem cutF11 : cutS (textF 11).length (textF 11) = .ok (wsF 11) := by kernel_rfl
theorem cutF15 : cutS (textF 15).length (textF 15) = .ok (wsF 15) := by kernel_rfl
theorem cutF19 : cutS (textF 19).length (textF 19) = .ok (wsF 19) := by kernel_rfl
theorem cutF23 : cutS (textF 23).length (textF 23) = .ok (wsF 23) := by kernel_rfl
theorem cutF27 : cutS (textF 27).length (textF 27) = .ok (wsF 27) := by kernel_rfl
theorem cutF31 : cutS (textF 31).length (textF 31) = .ok (wsF 31) := by kernel_rfl
theorem cutF35 : cutS (textF 35).length (textF 35) = .ok (wsF 35) := by kernel_rfl
theorem cutF39 : cutS (textF 39).length (textF 39) = .ok (wsF 39) := by kernel_rfl
end Go.Syn

namespace Go.Syn
open Go Go.Lex
set_option maxRecDepth 1000000
theorem cutF4 : cutS (textF 4).length (textF 4) = .ok (wsF 4) := by kernel_rfl
theorem cutF8 : cutS (textF 8).length (textF 8) = .ok (wsF 8) := by kernel_rfl
theorem cutF12 : cutS (textF 12).length (textF 12) = .ok (wsF 12) := by kernel_rfl
theorem cutF16 : cutS (textF 16).length (textF 16) = .ok (wsF 16) := by kernel_rfl
theorem cutF20 : cutS (textF 20).length (textF 20) = .ok (wsF 20) := by kernel_rfl
theorem cutF24 : cutS (textF 24).length (textF 24) = .ok (wsF 24) := by kernel_rfl
theorem cutF28 : cutS (textF 28).length (textF 28) = .ok (wsF 28) := by kernel_rfl
theorem cutF32 : cutS (textF 32).length (textF 32) = .ok (wsF 32) := by kernel_rfl
theorem cutF36 : cutS (textF 36).length (textF 36) = .ok (wsF 36) := by kernel_rfl
theorem cutF40 : cutS (textF 40).length (textF 40) = .ok (wsF 40) := by kernel_rfl
end Go.Syn

namespace Go.Syn
open Go Go.Lex
theorem cutF : ∀ (n : Nat), 1 ≤ n → n ≤ 40 → cutS (textF n).length (textF n) = .ok (wsF n)
  | 0, h, _ => absurd h (by omega)
  | 1, _, _ => cutF1
  | 2, _, _ => cutF2
  | 3, _, _ => cutF3
  | 4, _, _ => cutF4
  | 5, _, _ => cutF5
  | 6, _, _ => cutF6
  | 7, _, _ => cutF7
  | 8, _, _ => cutF8
  | 9, _, _ => cutF9
  | 10, _, _ => cutF10
  | 11, _, _ => cutF11
  | 12, _, _ => cutF12
  | 13, _, _ => cutF13
  | 14, _, _ => cutF14
  | 15, _, _ => cutF15
  | 16, _, _ => cutF16
  | 17, _, _ => cutF17
  | 18, _, _ => cutF18
  | 19, _, _ => cutF19
  | 20, _, _ => cutF20
  | 21, _, _ => cutF21
  | 22, _, _ => cutF22
  | 23, _, _ => cutF23
  | 24, _, _ => cutF24
  | 25, _, _ => cutF25
  | 26, _, _ => cutF26
  | 27, _, _ => cutF27
  | 28, _, _ => cutF28
  | 29, _, _ => cutF29
  | 30, _, _ => cutF30
  | 31, _, _ => cutF31
  | 32, _, _ => cutF32
  | 33, _, _ => cutF33
  | 34, _, _ => cutF34
  | 35, _, _ => cutF35
  | 36, _, _ => cutF36
  | 37, _, _ => cutF37
  | 38, _, _ => cutF38
  | 39, _, _ => cutF39
  | 40, _, _ => cutF40
  | n + 41, _, h => absurd h (by omega)
end Go.Syn

namespace Go.Syn
open Go Go.Lex
set_option linter.unusedVariables false
set_option linter.unusedSimpArgs false
theorem idxF_len : ∀ n, (wsF n).length = idxF n
  | 0 => rfl
  | 1 => rfl
  | n + 2 => by
    rw [wsF, List.length_append, idxF_len (n + 1)]
    simp [headWF, tailWF, idxF]
    omega
theorem stF_i : ∀ n, (stF n).i = idxF n ∧ (stF n).err = 0
  | 0 => ⟨rfl, rfl⟩
  | 1 => ⟨rfl, rfl⟩
  | n + 2 => ⟨by simp only [stF, idxF]; omega, rfl⟩
theorem ndsF_len : ∀ n, (ndsF n).length = n
  | 0 => rfl
  | n + 1 => by rw [ndsF, List.length_append, ndsF_len n]; rfl
theorem wsF_split (n i : Nat) (h : i < n) : ∃ R, wsF n = wsF i ++ (posF i, kw sNode) :: R := by
  induction n with
  | zero => omega
  | succ n ih =>
    by_cases e : i = n
    · subst e
      exact ⟨_, by rw [wsF]; rfl⟩
    · obtain ⟨R, hR⟩ := ih (by omega)
      exact ⟨R ++ (headWF n (posF n) ++ tailWF n (posF n)), by rw [wsF, hR]; simp⟩
theorem atF {i : Nat} {w : Nat × Wd} {R : List (Nat × Wd)} : at_ (wsF i ++ w :: R) (stF i) = w := by
  unfold at_
  rw [(stF_i i).1, ← idxF_len]
  simp [List.getD]
theorem nodesF {n e : Nat} (hn : n ≤ 32) (h1 : 1 ≤ n) : ∀ (k i : Nat), i + k = n → nodesL (wsF n ++ [(e, endW)]) (33 - i) (ndsF i) (stF i) = (ndsF n, stF n)
  | 0, i, h => by
    obtain rfl : i = n := by omega
    obtain ⟨k, hk⟩ : ∃ k, 33 - i = k + 1 := ⟨32 - i, by omega⟩
    have hne : ndsF i ≠ [] := fun e => by have := ndsF_len i; rw [e] at this; simp at this; omega
    rw [hk, nodesL, if_neg]
    rintro ⟨_, h | h⟩
    · exact hne h
    · apply h
      unfold kind
      rw [atF]
      rfl
  | k + 1, i, h => by
    have hk : 33 - i = (33 - (i + 1)) + 1 := by omega
    obtain ⟨R, hR⟩ := wsF_split n i (by omega)
    have hat : at_ (wsF n ++ [(e, endW)]) (stF i) = (posF i, kw sNode) := by
      rw [hR, List.append_assoc, List.cons_append]; exact atF
    have hnode : node (wsF n ++ [(e, endW)]) (stF i) = (ndF i, stF (i + 1)) := by
      by_cases hin : i + 1 = n
      · rw [← hin]
        exact nfb i (by omega) e []
      · obtain ⟨R', hR'⟩ := wsF_split n (i + 1) (by omega)
        rw [hR', List.append_assoc, List.cons_append]
        exact nfa i (by omega) _ _
    rw [hk, nodesL, if_pos ⟨(stF_i i).2, .inr (by unfold kind; rw [hat]; exact (by decide : (kw sNode).kind ≠ 0))⟩, if_neg (by rw [ndsF_len]; omega), hnode]
    exact nodesF hn h1 k (i + 1) (by omega)
theorem nodesF_many {n e : Nat} (hn : 32 < n) : ∀ (k i : Nat), i + k = 32 → nodesL (wsF n ++ [(e, endW)]) (33 - i) (ndsF i) (stF i) = (ndsF 32, fail (wsF n ++ [(e, endW)]) 2 (stF 32))
  | 0, i, h => by
    obtain rfl : i = 32 := by omega
    obtain ⟨R, hR⟩ := wsF_split n 32 hn
    have hat : at_ (wsF n ++ [(e, endW)]) (stF 32) = (posF 32, kw sNode) := by
      rw [hR, List.append_assoc, List.cons_append]; exact atF
    rw [show 33 - 32 = 0 + 1 from rfl, nodesL, if_pos ⟨(stF_i 32).2, .inr (by unfold kind; rw [hat]; exact (by decide : (kw sNode).kind ≠ 0))⟩, if_pos (ndsF_len 32)]
  | k + 1, i, h => by
    have hk : 33 - i = (33 - (i + 1)) + 1 := by omega
    obtain ⟨R, hR⟩ := wsF_split n i (by omega)
    have hat : at_ (wsF n ++ [(e, endW)]) (stF i) = (posF i, kw sNode) := by
      rw [hR, List.append_assoc, List.cons_append]; exact atF
    have hnode : node (wsF n ++ [(e, endW)]) (stF i) = (ndF i, stF (i + 1)) := by
      obtain ⟨R', hR'⟩ := wsF_split n (i + 1) (by omega)
      rw [hR', List.append_assoc, List.cons_append]
      exact nfa i (by omega) _ _
    rw [hk, nodesL, if_pos ⟨(stF_i i).2, .inr (by unfold kind; rw [hat]; exact (by decide : (kw sNode).kind ≠ 0))⟩, if_neg (by rw [ndsF_len]; omega), hnode]
    exact nodesF_many hn k (i + 1) (by omega)
theorem textF_len : ∀ n, (textF n).length ≤ 55 * n
  | 0 => Nat.le_refl _
  | n + 1 => by
    have h := textF_len n
    rw [textF, List.length_append]
    have : (pieceF n).length ≤ 55 := by
      cases n <;> simp [pieceF, lastF, nmF, bodyF, endF]
    omega
theorem parse_F {n : Nat} (h1 : 1 ≤ n) (hn : n ≤ 32) : parse (textF n) = .ok (ndsF n) := by
  have hl := textF_len n
  unfold parse
  rw [if_neg (by omega), cutF n h1 (by omega)]
  have := nodesF (e := (textF n).length) hn h1 n 0 (by omega)
  simp only
  rw [show nodesL (wsF n ++ [((textF n).length, (⟨0, [], 0⟩ : Wd))]) 33 [] ⟨0, 0, 0, 0, 0⟩ = (ndsF n, stF n) from this]
  simp only
  rw [if_pos (stF_i n).2]
theorem parse_many {n : Nat} (h1 : 32 < n) (hn : n ≤ 40) : parse (textF n) = .error (2, 1755) := by
  have hl := textF_len n
  unfold parse
  rw [if_neg (by omega), cutF n (by omega) hn]
  have := nodesF_many (e := (textF n).length) h1 32 0 (by omega)
  simp only
  rw [show nodesL (wsF n ++ [((textF n).length, (⟨0, [], 0⟩ : Wd))]) 33 [] ⟨0, 0, 0, 0, 0⟩ = _ from this]
  obtain ⟨R, hR⟩ := wsF_split n 32 h1
  have hat : at_ (wsF n ++ [((textF n).length, endW)]) (stF 32) = (posF 32, kw sNode) := by
    rw [hR, List.append_assoc, List.cons_append]; exact atF
  simp only [fail, (stF_i 32).2, if_pos, hat]
  rfl
end Go.Syn

namespace Go.Abs
open Go Go.ChangeShapes
def consec (P : Program) : List Field → Nat → Option Nat
  | [], o => some o
  | f :: r, o => if f.offset = o then consec P r (o + P.cellsOf f.type) else none
def plainTy (P : Program) : Nat → TypeId → Bool
  | 0, _ => false
  | n + 1, t => match P.underlying t with
    | some .bool => P.cellsOf t == 1
    | some (.int _) => P.cellsOf t == 1
    | some .string => P.cellsOf t == 1
    | some (.slice e) => P.cellsOf t == 1 && decide (0 < P.cellsOf e) && plainTy P n e
    | some (.struct fs) => (consec P fs.toList 0 == some (P.cellsOf t)) && fs.toList.all fun f => plainTy P n f.type
    | _ => false
def Shp (P : Program) : Nat → TypeId → List AV → Prop
  | 0, _, _ => False
  | n + 1, t, as_ => match P.underlying t with
    | some .bool => ∃ b, as_ = [.bool b]
    | some (.int k) => ∃ m, as_ = [.int k m] ∧ (Lit.int k m).wf = true
    | some .string => ∃ s, as_ = [.str s] ∧ s.length ≤ maxLen
    | some (.slice e) => as_ = [.nilsl] ∨ ∃ es : List (List AV), as_ = [.vsl es.flatten es.length] ∧ es.length ≤ maxLen ∧ ∀ x ∈ es, Shp P n e x
    | some (.struct fs) => ∃ xs : List (List AV), as_ = xs.flatten ∧ xs.length = fs.toList.length ∧ ∀ (i : Nat) (f : Field) (x : List AV), fs.toList[i]? = some f → xs[i]? = some x → Shp P n f.type x
    | _ => False
theorem Shp.length {P : Program} : ∀ {n : Nat} {t : TypeId} {as_ : List AV}, plainTy P n t = true → Shp P n t as_ → as_.length = P.cellsOf t
  | 0, _, _, h, _ => by simp [plainTy] at h
  | n + 1, t, as_, h, hs => by
    unfold plainTy at h
    unfold Shp at hs
    split at h
    · rename_i hu; rw [hu] at hs; obtain ⟨b, rfl⟩ := hs; simp at h; simp [h]
    · rename_i hu; rw [hu] at hs; obtain ⟨m, rfl, _⟩ := hs; simp at h; simp [h]
    · rename_i hu; rw [hu] at hs; obtain ⟨m, rfl, _⟩ := hs; simp at h; simp [h]
    · rename_i hu; rw [hu] at hs
      simp only [Bool.and_eq_true, beq_iff_eq] at h
      rcases hs with rfl | ⟨es, rfl, _⟩ <;> simp [h.1.1]
    · rename_i fs hu
      rw [hu] at hs
      simp only [Bool.and_eq_true, beq_iff_eq] at h
      obtain ⟨xs, rfl, hl, hx⟩ := hs
      have key : ∀ (l : List Field) (xs : List (List AV)) (o e : Nat), xs.length = l.length → (∀ (i : Nat) (f : Field) (x : List AV), l[i]? = some f → xs[i]? = some x → x.length = P.cellsOf f.type) → consec P l o = some e → o + xs.flatten.length = e := by
        intro l
        induction l with
        | nil => intro xs o e hxl _ hc; simp at hxl; subst hxl; simpa [consec] using hc
        | cons f l ih =>
          intro xs o e hxl hx hc
          cases xs with
          | nil => simp at hxl
          | cons x xs =>
            simp only [consec] at hc
            split at hc <;> try (simp at hc; done)
            have := ih xs _ _ (by simpa using hxl) (fun i f x hf hx' => hx (i + 1) f x (by simpa using hf) (by simpa using hx')) hc
            have h0 := hx 0 f x rfl rfl
            simp only [List.flatten_cons, List.length_append]
            omega
      have := key fs.toList xs 0 _ hl (fun i f x hf hx' => by
        have h2 := h.2
        rw [List.all_eq_true] at h2
        exact Shp.length (h2 f (List.mem_of_getElem? hf)) (hx i f x hf hx')) h.1
      omega
    · simp at h
theorem VRels.blocks {E : Env} {z : Nat} : ∀ (es : List (List AV)) (L : List Value), (∀ (i : Nat) (x : List AV), es[i]? = some x → VRels E x ((L.drop (i * z)).take z)) → VRels E es.flatten (L.take (es.length * z))
  | [], L, _ => by simpa using VRels.nil
  | x :: es, L, h => by
    have h0 := h 0 x rfl
    simp only [Nat.zero_mul, List.drop_zero] at h0
    have ih := VRels.blocks (z := z) es (L.drop z) fun i y hy => by
      have := h (i + 1) y (by simpa using hy)
      rw [List.drop_drop]
      have e : z + i * z = (i + 1) * z := by rw [Nat.add_mul]; omega
      rw [e]; exact this
    have e : L.take ((x :: es).length * z) = L.take z ++ (L.drop z).take (es.length * z) := by
      rw [← List.take_add]
      congr 1
      simp only [List.length_cons, Nat.add_mul]; omega
    rw [e, List.flatten_cons]
    exact h0.append ih
theorem consec_le {P : Program} : ∀ {l : List Field} {o e : Nat}, consec P l o = some e → o ≤ e
  | [], o, e, h => by simp [consec] at h; omega
  | f :: l, o, e, h => by
    simp only [consec] at h
    split at h <;> try (simp at h; done)
    have := consec_le h
    omega
theorem VRels.fields {P : Program} {E : Env} {cs : List Value} : ∀ (l : List Field) (xs : List (List AV)) (o e : Nat), consec P l o = some e → xs.length = l.length → (∀ (i : Nat) (f : Field) (x : List AV), l[i]? = some f → xs[i]? = some x → VRels E x ((cs.drop f.offset).take (P.cellsOf f.type))) → VRels E xs.flatten ((cs.drop o).take (e - o))
  | [], xs, o, e, hc, hl, _ => by
    simp at hl; subst hl
    simp [consec] at hc; subst hc
    simpa using VRels.nil
  | f :: l, [], o, e, _, hl, _ => by simp at hl
  | f :: l, x :: xs, o, e, hc, hl, h => by
    simp only [consec] at hc
    split at hc <;> try (simp at hc; done)
    rename_i ho
    have hle := consec_le hc
    have h0 := h 0 f x rfl rfl
    rw [ho] at h0
    have ih := VRels.fields l xs _ e hc (by simpa using hl) fun i f x hf hx => h (i + 1) f x (by simpa using hf) (by simpa using hx)
    have e1 : (cs.drop o).take (e - o) = (cs.drop o).take (P.cellsOf f.type) ++ (cs.drop (o + P.cellsOf f.type)).take (e - (o + P.cellsOf f.type)) := by
      rw [← List.drop_drop, ← List.take_add]
      congr 1; omega
    rw [e1, List.flatten_cons]
    exact h0.append ih
theorem exists_list {α : Type} {n : Nat} {Q : Nat → α → Prop} (h : ∀ i, i < n → ∃ y, Q i y) : ∃ l : List α, l.length = n ∧ ∀ (i : Nat) (x : α), l[i]? = some x → Q i x := by
  induction n with
  | zero => exact ⟨[], rfl, fun i x h => by simp at h⟩
  | succ n ih =>
    obtain ⟨l, h1, h2⟩ := ih fun i hi => h i (by omega)
    obtain ⟨y, hy⟩ := h n (by omega)
    refine ⟨l ++ [y], by simp [h1], fun i x hx => ?_⟩
    rcases Nat.lt_or_ge i l.length with g | g
    · rw [List.getElem?_append_left g] at hx; exact h2 i x hx
    · rw [List.getElem?_append_right g] at hx
      have : i - l.length = 0 := by
        rcases Nat.eq_zero_or_pos (i - l.length) with e | e
        · exact e
        · rw [List.getElem?_eq_none (by simp; omega)] at hx; simp at hx
      have hin : i = n := by omega
      rw [this] at hx
      simp at hx; subst hx
      rw [hin]; exact hy
section
variable {H : Type} {enc : TypeId × Value → H} {P : Program} {w : World} {base : Nat} {held : Bool}
theorem open_plain : ∀ {n : Nat} {t : TypeId} {fuel : Nat} {cs : List Value} {x : DataW H × List MemPlace}, plainTy P n t = true → DataW.trod enc P w base (fun _ => true) held fuel t cs = some x → ∃ as_, VRels (Env.start w) as_ cs ∧ Shp P n t as_
  | 0, _, _, _, _, h, _ => by simp [plainTy] at h
  | n + 1, t, fuel, cs, x, h, hx => by
    have h0 := h
    unfold plainTy at h
    split at h <;> rename_i hu
    · obtain ⟨b, rfl, _⟩ := DataW.trod_bool hu hx
      exact ⟨[.bool b], .cons (.bool b) .nil, by unfold Shp; rw [hu]; exact ⟨b, rfl⟩⟩
    · obtain ⟨m, rfl, _, hwf⟩ := DataW.trod_int hu hx
      exact ⟨[.int _ m], .cons (.int _ m) .nil, by unfold Shp; rw [hu]; exact ⟨m, rfl, hwf⟩⟩
    · obtain ⟨s, rfl, _, hs⟩ := DataW.trod_string hu hx
      refine ⟨[.str s.data.toList], .cons ?_ .nil, by unfold Shp; rw [hu]; exact ⟨_, rfl, by simpa using hs⟩⟩
      have := VRel.str (E := Env.start w) s.data.toList
      simpa using this
    · rename_i e
      simp only [Bool.and_eq_true, beq_iff_eq, decide_eq_true_eq] at h
      obtain ⟨⟨_, hz⟩, he⟩ := h
      rcases DataW.trod_slice hu hx with ⟨rfl, _⟩ | ⟨a, len, cap, elems, rest, m, _, rfl, _, _, hl, hm, hlen, hel, hsp, _⟩
      · exact ⟨[.nilsl], .cons .nilsl .nil, by unfold Shp; rw [hu]; exact .inl rfl⟩
      · have hq : ∀ i, i < len → ∃ as_ : List AV, ∃ ci, w.cells? base (a.add (i * P.cellsOf e)) (P.cellsOf e) = some ci ∧ VRels (Env.start w) as_ ci ∧ Shp P n e as_ := by
          intro i hi
          have h1 := hel i hi
          rw [List.getElem?_eq_getElem (by omega)] at h1
          cases hc : w.cells? base (a.add (i * P.cellsOf e)) (P.cellsOf e) with
          | none => rw [hc] at h1; simp at h1
          | some ci =>
            rw [hc] at h1
            obtain ⟨as_, h2, h3⟩ := open_plain he h1
            exact ⟨as_, ci, rfl, h2, h3⟩
        obtain ⟨es, hes, hq⟩ := exists_list hq
        have hshp : Shp P (n + 1) t [.vsl es.flatten es.length] := by
          unfold Shp; rw [hu]
          refine .inr ⟨es, rfl, by omega, fun x hx => ?_⟩
          obtain ⟨i, hi⟩ := List.getElem?_of_mem hx
          obtain ⟨_, _, _, h3⟩ := hq i x hi
          exact h3
        refine ⟨_, ?_, hshp⟩
        by_cases hcap : cap = 0
        · have : len = 0 := by omega
          subst hcap; subst this
          have : es = [] := List.eq_nil_of_length_eq_zero hes
          subst this
          exact .cons .vsl0 .nil
        · -- a cell is there, so the address is a plain one
          have hspot : a.spot = none := by
            have key : ∀ ci, w.cells? base (a.add 0) (P.cellsOf e) = some ci → a.spot = none := by
              intro ci hc
              obtain ⟨_, h1, h2⟩ := World.cells?_some hc
              have h3 := h2 0 hz
              rw [List.getElem?_eq_getElem (by omega)] at h3
              have e0 : (a.add 0).add 0 = a := by simp [Addr.add]
              rw [e0] at h3
              unfold World.cell? at h3
              split at h3
              · split at h3
                · simp at h3
                · rename_i hsn; simpa using hsn
              · simp at h3
            by_cases h1 : 0 < len
            · have h2 := hel 0 h1
              rw [List.getElem?_eq_getElem (by omega), Nat.zero_mul] at h2
              cases hc : w.cells? base (a.add 0) (P.cellsOf e) with
              | none => rw [hc] at h2; simp at h2
              | some ci => exact key ci hc
            · have h2 := (hsp rfl).2 0 (by omega)
              have hr := (hsp rfl).1
              have hl0 : len = 0 := by omega
              rw [hl0] at h2
              rw [List.getElem?_eq_getElem (by omega)] at h2
              simp only [Nat.add_zero, Nat.zero_mul] at h2
              cases hc : w.cells? base (a.add 0) (P.cellsOf e) with
              | none => rw [hc] at h2; simp at h2
              | some ci => exact key ci hc
          obtain ⟨B, o, sp⟩ := a
          simp only at hspot
          subst hspot
          refine .cons ?_ .nil
          rw [hes]
          by_cases hl0 : len = 0
          · subst hl0
            have : es = [] := List.eq_nil_of_length_eq_zero hes
            subst this
            exact .vsl InK.nil .nil (Nat.zero_le _)
          · have hadd : ∀ k, (Addr.mk B o none).add k = ⟨B, o + k, none⟩ := fun k => by
              unfold Addr.add
              split
              · rename_i h; subst h; rfl
              · rfl
            -- the block
            obtain ⟨x0, hx0⟩ : ∃ x0, es[0]? = some x0 := ⟨es[0]'(by omega), List.getElem?_eq_getElem (by omega)⟩
            obtain ⟨c0, hc0, _, _⟩ := hq 0 x0 hx0
            obtain ⟨_, hcl0, hce0⟩ := World.cells?_some hc0
            have hce := hce0 0 hz
            rw [List.getElem?_eq_getElem (by omega)] at hce
            have hblk : ∃ c e f, w.heap[B]? = some (.cells c e f) := by
              rw [Nat.zero_mul, hadd] at hce
              unfold World.cell? at hce
              have e0 : (Addr.add ⟨B, o + 0, none⟩ 0).block = B := by simp [Addr.add]
              rw [e0] at hce
              split at hce
              · rename_i c e f hh; exact ⟨c, e, f, hh⟩
              · simp at hce
            obtain ⟨c, ce, cf, hh⟩ := hblk
            have hcell : ∀ k, w.cell? ⟨B, o + k, none⟩ = c[o + k]? := fun k => by
              unfold World.cell?; simp [hh]
            have hb : VRels (Env.start w) es.flatten ((c.toList.drop o).take (es.length * P.cellsOf e)) := VRels.blocks es (c.toList.drop o) fun i x hi => by
              obtain ⟨ci, hci, hv, _⟩ := hq i x hi
              obtain ⟨_, hcl, hcc⟩ := World.cells?_some hci
              have : ci = ((c.toList.drop o).drop (i * P.cellsOf e)).take (P.cellsOf e) := by
                apply List.ext_getElem?
                intro j
                by_cases hj : j < P.cellsOf e
                · rw [← hcc j hj, hadd]
                  have e1 : (Addr.mk B (o + i * P.cellsOf e) none).add j = ⟨B, o + (i * P.cellsOf e + j), none⟩ := by
                    unfold Addr.add
                    split
                    · rename_i h; subst h; rfl
                    · simp [Nat.add_assoc]
                  rw [e1, hcell]
                  simp only [List.getElem?_take, if_pos hj, List.getElem?_drop, Array.getElem?_toList]
                · rw [List.getElem?_eq_none (by omega), List.getElem?_take, if_neg hj]
              rw [← this]; exact hv
            exact .vsl (.inr ⟨c, ce, cf, hh, List.take_prefix _ _⟩) hb hl
    · rename_i fs
      simp only [Bool.and_eq_true, beq_iff_eq] at h
      obtain ⟨hc, hall⟩ := h
      rw [List.all_eq_true] at hall
      obtain ⟨xs, m, _, _, hcl, hxl, hf⟩ := DataW.trod_struct hu hx
      have hq : ∀ i, i < fs.size → ∃ as_ : List AV, ∀ f, fs.toList[i]? = some f → VRels (Env.start w) as_ ((cs.drop f.offset).take (P.cellsOf f.type)) ∧ Shp P n f.type as_ := by
        intro i hi
        have hfi : fs[i]? = some fs[i] := Array.getElem?_eq_getElem hi
        have h1 := hf i _ hfi
        rw [List.getElem?_eq_getElem (by omega)] at h1
        obtain ⟨as_, h2, h3⟩ := open_plain (hall _ (by simp)) h1
        refine ⟨as_, fun f hf' => ?_⟩
        have : fs[i]? = some f := by simpa using hf'
        rw [hfi] at this
        simp only [Option.some.injEq] at this
        subst this
        exact ⟨h2, h3⟩
      obtain ⟨ys, hyl, hq⟩ := exists_list hq
      have hyl' : ys.length = fs.toList.length := by simpa using hyl
      refine ⟨ys.flatten, ?_, ?_⟩
      · have := VRels.fields (P := P) (E := Env.start w) (cs := cs) fs.toList ys 0 _ hc hyl' fun i f x hf hx => (hq i x hx f hf).1
        rw [List.drop_zero, Nat.sub_zero, List.take_of_length_le (by omega)] at this
        exact this
      · unfold Shp; rw [hu]
        exact ⟨ys, rfl, hyl', fun i f x hf hx => (hq i x hx f hf).2⟩
    · simp at h
end
end Go.Abs

namespace Go.Abs
open Go Go.ChangeShapes
def dataAll (f : DataW Unit → Option (List AV)) : List (DataW Unit) → Option (List (List AV))
  | [] => some []
  | d :: r => match f d, dataAll f r with
    | some x, some xs => some (x :: xs)
    | _, _ => none
def dataFields (f : TypeId → DataW Unit → Option (List AV)) : List Field → List (DataW Unit) → Option (List (List AV))
  | [], [] => some []
  | fd :: fs, d :: r => match f fd.type d, dataFields f fs r with
    | some x, some xs => some (x :: xs)
    | _, _ => none
  | _, _ => none
def dataAV (P : Program) (N : String → Option TypeId) : Nat → Bool → TypeId → DataW Unit → Option (List AV)
  | 0, _, _, _ => none
  | n + 1, top, t, d => match P.underlying t, d with
    | some .bool, .lit (.bool b) => some [.bool b]
    | some (.int k), .lit (.int k' m) => if k' = k then some [.int k m] else none
    | some .string, .lit (.string l) => some [.str l]
    | some (.pointer _), .nil => some [.nilptr]
    | some (.pointer e), .ptr d => if 0 < P.cellsOf e then (dataAV P N n false e d).map fun as_ => [.vptr as_] else none
    | some (.array len e), .agg ds => if ds.length = len ∧ P.cellsOf t = len * P.cellsOf e then (dataAll (dataAV P N n top e) ds).map List.flatten else none
    | some (.struct fs), .agg ds => if consec P fs.toList 0 = some (P.cellsOf t) then (dataFields (dataAV P N n top) fs.toList ds).map List.flatten else none
    | some (.interface _), .nil => some [.niliface]
    | some (.interface _), .iface name d => if top = true then match N name with
        | some u => match P.underlying u with
          | some (.pointer _) => match dataAV P N n false u d with
            | some [a] => some [.iface u a]
            | _ => none
          | _ => none
        | none => none
      else none
    | _, _ => none
theorem dataAll_spec {f : DataW Unit → Option (List AV)} : ∀ {ds : List (DataW Unit)} {xs : List (List AV)}, dataAll f ds = some xs → xs.length = ds.length ∧ ∀ (i : Nat) (x : List AV), xs[i]? = some x → ∃ d, ds[i]? = some d ∧ f d = some x
  | [], xs, h => by simp [dataAll] at h; subst h; simp
  | d :: r, xs, h => by
    simp only [dataAll] at h
    split at h <;> try (simp at h; done)
    rename_i x ys h1 h2
    simp only [Option.some.injEq] at h; subst h
    obtain ⟨hl, hx⟩ := dataAll_spec h2
    refine ⟨by simp [hl], fun i y hy => ?_⟩
    cases i with
    | zero => simp at hy; subst hy; exact ⟨d, rfl, h1⟩
    | succ i => simpa using hx i y (by simpa using hy)
theorem dataFields_spec {f : TypeId → DataW Unit → Option (List AV)} : ∀ {fs : List Field} {ds : List (DataW Unit)} {xs : List (List AV)}, dataFields f fs ds = some xs → xs.length = fs.length ∧ ds.length = fs.length ∧ ∀ (i : Nat) (fd : Field) (x : List AV), fs[i]? = some fd → xs[i]? = some x → ∃ d, ds[i]? = some d ∧ f fd.type d = some x
  | [], [], xs, h => by simp [dataFields] at h; subst h; simp
  | [], _ :: _, _, h => by simp [dataFields] at h
  | _ :: _, [], _, h => by simp [dataFields] at h
  | fd :: fs, d :: r, xs, h => by
    simp only [dataFields] at h
    split at h <;> try (simp at h; done)
    rename_i x ys h1 h2
    simp only [Option.some.injEq] at h; subst h
    obtain ⟨hl, hd, hx⟩ := dataFields_spec h2
    refine ⟨by simp [hl], by simp [hd], fun i fd' y hf hy => ?_⟩
    cases i with
    | zero => simp at hf hy; subst hf; subst hy; exact ⟨d, rfl, h1⟩
    | succ i => simpa using hx i fd' y (by simpa using hf) (by simpa using hy)
section
variable {P : Program} {w : World} {N : String → Option TypeId} {sp : Nat → Bool}
theorem add_none (B o k : Nat) : (Addr.mk B o none).add k = ⟨B, o + k, none⟩ := by
  unfold Addr.add
  split
  · rename_i h; subst h; rfl
  · rfl
theorem data_open (hN : ∀ name u u', N name = some u → P.typeName? 3 u' = some name → u' = u) : ∀ {n : Nat} {top : Bool} {t : TypeId} {d : DataW Unit} {as_ : List AV} {fuel : Nat} {cs : List Value} {p : List MemPlace},
    dataAV P N n top t d = some as_ → DataW.trod (fun _ => ()) P w 0 sp false fuel t cs = some (d, p) →
    (top = true → ∀ u v, Value.iface u v ∈ cs → Value.okWide P w .any 0 u v) → VRels (Env.start w) as_ cs
  | 0, _, _, _, _, _, _, _, h, _, _ => by simp [dataAV] at h
  | n + 1, top, t, d, as_, fuel, cs, p, h, hx, ok => by
    unfold dataAV at h
    split at h <;> rename_i hu
    · simp only [Option.some.injEq] at h; subst h
      obtain ⟨b, rfl, he⟩ := DataW.trod_bool hu hx
      simp at he; obtain ⟨rfl, rfl⟩ := he
      exact .cons (.bool _) .nil
    · obtain ⟨m, rfl, he, _⟩ := DataW.trod_int hu hx
      simp at he; obtain ⟨⟨rfl, rfl⟩, rfl⟩ := he
      simp at h; subst h
      exact .cons (.int _ _) .nil
    · simp only [Option.some.injEq] at h; subst h
      obtain ⟨s, rfl, he, _⟩ := DataW.trod_string hu hx
      simp at he; obtain ⟨rfl, rfl⟩ := he
      have := VRel.str (E := Env.start w) s.data.toList
      exact .cons (by simpa using this) .nil
    · simp only [Option.some.injEq] at h; subst h
      cases fuel with
      | zero => simp [DataW.trod] at hx
      | succ m =>
        match cs with
        | [] => simp [DataW.trod, hu] at hx
        | _ :: _ :: _ => simp [DataW.trod, hu] at hx
        | [c] =>
          cases c <;> simp [DataW.trod, hu] at hx
          rename_i o
          cases o with
          | none => exact .cons .nilptr .nil
          | some a =>
            simp only [Option.bind_eq_some_iff, Function.comp, Option.map_eq_some_iff] at hx
            obtain ⟨_, _, _, _, hx⟩ := hx
            simp at hx
    · rename_i e d'
      split at h <;> try (simp at h; done)
      rename_i hz
      simp only [Option.map_eq_some_iff] at h
      obtain ⟨xs, h, rfl⟩ := h
      obtain ⟨m, a, cs', q, rfl, hc, h2, rfl⟩ := ptr_of_trod hu hx
      have hv := data_open hN h h2 (by simp)
      obtain ⟨_, hcl, hce⟩ := World.cells?_some hc
      have h0 := hce 0 hz
      rw [List.getElem?_eq_getElem (by omega)] at h0
      have hspot : a.spot = none := by
        unfold World.cell? at h0
        split at h0
        · split at h0
          · simp at h0
          · rename_i hsn
            have : (a.add 0).spot = a.spot := rfl
            rw [this] at hsn
            simpa using hsn
        · simp at h0
      obtain ⟨B, o, s⟩ := a
      simp only at hspot; subst hspot
      have hblk : ∃ c e f, w.heap[B]? = some (.cells c e f) := by
        rw [add_none] at h0
        unfold World.cell? at h0
        simp only at h0
        split at h0
        · rename_i c e f hh; exact ⟨c, e, f, hh⟩
        · simp at h0
      obtain ⟨c, ce, cf, hh⟩ := hblk
      have hcell : ∀ k, w.cell? ⟨B, o + k, none⟩ = c[o + k]? := fun k => by
        unfold World.cell?; simp [hh]
      have he : cs' = (c.toList.drop o).take (P.cellsOf e) := by
        apply List.ext_getElem?
        intro j
        by_cases hj : j < P.cellsOf e
        · rw [← hce j hj, add_none, hcell]
          simp only [List.getElem?_take, if_pos hj, List.getElem?_drop, Array.getElem?_toList]
        · rw [List.getElem?_eq_none (by omega), List.getElem?_take, if_neg hj]
      refine .cons (.vptr (.inr ⟨c, ce, cf, hh, ?_⟩) hv) .nil
      rw [he]
      exact List.take_prefix _ _
    · rename_i len e ds
      split at h <;> try (simp at h; done)
      rename_i hz
      simp only [Option.map_eq_some_iff] at h
      obtain ⟨xs, h, rfl⟩ := h
      obtain ⟨ys, m, _, hd, hcl, hyl, hy⟩ := DataW.trod_array hu hx
      simp only [Prod.mk.injEq, DataW.agg.injEq] at hd
      obtain ⟨rfl, rfl⟩ := hd
      obtain ⟨hxl, hxs⟩ := dataAll_spec h
      have hxl' : xs.length = len := by simpa [hyl] using hxl
      have := VRels.blocks (E := Env.start w) (z := P.cellsOf e) xs cs fun i x hi => by
        obtain ⟨d, hd, hf⟩ := hxs i x hi
        have hlt : i < len := by rw [← hxl']; exact (List.getElem?_eq_some_iff.1 hi).1
        have h3 := hy i hlt
        rw [List.getElem?_eq_getElem (by omega)] at h3
        have hd' : (ys[i]'(by omega)).1 = d := by simpa [List.getElem?_eq_getElem (show i < ys.length by omega)] using hd
        rw [← hd'] at hf
        exact data_open hN hf h3 fun ht u v hm => ok ht u v (List.mem_of_mem_drop (List.mem_of_mem_take hm))
      rw [hxl', List.take_of_length_le (by omega)] at this
      exact this
    · rename_i fs ds
      split at h <;> try (simp at h; done)
      rename_i hz
      simp only [Option.map_eq_some_iff] at h
      obtain ⟨xs, h, rfl⟩ := h
      obtain ⟨ys, m, _, hd, hcl, hyl, hy⟩ := DataW.trod_struct hu hx
      simp only [Prod.mk.injEq, DataW.agg.injEq] at hd
      obtain ⟨rfl, rfl⟩ := hd
      obtain ⟨hxl, _, hxs⟩ := dataFields_spec h
      have := VRels.fields (P := P) (E := Env.start w) (cs := cs) fs.toList xs 0 _ hz hxl fun i f x hf hi => by
        obtain ⟨d, hd, hff⟩ := hxs i f x hf hi
        have hlt : i < ys.length := by
          have := (List.getElem?_eq_some_iff.1 hd).1
          simpa using this
        have h3 := hy i f (by simpa using hf)
        rw [List.getElem?_eq_getElem hlt] at h3
        have hd' : (ys[i]).1 = d := by simpa [List.getElem?_eq_getElem hlt] using hd
        rw [← hd'] at hff
        exact data_open hN hff h3 fun ht u v hm => ok ht u v (List.mem_of_mem_drop (List.mem_of_mem_take hm))
      rw [List.drop_zero, Nat.sub_zero, List.take_of_length_le (by omega)] at this
      exact this
    · simp only [Option.some.injEq] at h; subst h
      cases fuel with
      | zero => simp [DataW.trod] at hx
      | succ m =>
        match cs with
        | [] => simp [DataW.trod, hu] at hx
        | _ :: _ :: _ => simp [DataW.trod, hu] at hx
        | [c] =>
          cases c <;> simp [DataW.trod, hu] at hx
          · split at hx <;> simp at hx
          · exact .cons .niliface .nil
    · rename_i name d'
      split at h <;> try (simp at h; done)
      rename_i htop
      split at h <;> try (simp at h; done)
      rename_i u hnu
      split at h <;> try (simp at h; done)
      rename_i e hpu
      split at h <;> try (simp at h; done)
      rename_i a ha
      simp only [Option.some.injEq] at h; subst h
      obtain ⟨m, u', v, rfl, hname, h2⟩ := iface_of_trod hu hx
      obtain rfl := hN _ _ _ hnu hname
      have hok := ok htop u' v (by simp)
      have hvs := data_open hN ha h2 (by simp)
      have hv' : ∃ c, v = .pointer c := by
        unfold Value.okWide at hok
        simp only [hpu] at hok
        unfold Cell.okWide at hok
        cases v <;> simp [Cell.ok, hpu] at hok
        exact ⟨_, rfl⟩
      obtain ⟨c, rfl⟩ := hv'
      have hcl : (Value.pointer c).cells.toList = [.pointer c] := rfl
      rw [hcl] at hvs
      cases hvs with | cons hv _ => exact .cons (.iface hv) .nil
    · simp at h
def laidAV (P : Program) (N : String → Option TypeId) (n : Nat) (name : String) (d : DataW Unit) : Option (Nat × List AV) :=
  match P.globalNamed name with
  | some g => match (P.globals[g]?).map (·.type) with
    | some t => (dataAV P N n true t d).map fun as_ => (g, as_)
    | none => none
  | none => none
def laidTab (P : Program) (N : String → Option TypeId) (n : Nat) : List (String × DataW Unit) → Option (List (Nat × List AV))
  | [] => some []
  | (name, d) :: r => match laidAV P N n name d, laidTab P N n r with
    | some x, some xs => some (x :: xs)
    | _, _ => none
def Gof : List (Nat × List AV) → Nat → Option AV
  | [], _ => none
  | (g, as_) :: r, h => if h = g then some (.vptr as_) else Gof r h
theorem laid_rel (hN : ∀ name u u', N name = some u → P.typeName? 3 u' = some name → u' = u) {n : Nat} : ∀ {L : List (String × DataW Unit)} {T : List (Nat × List AV)} {ps : List MemPlace}, laidTab P N n L = some T → DataW.LaidVars P w L ps →
    (∀ b off, MemPlace.cell b off ∈ ps → ∀ u v, w.cell? ⟨b, off, none⟩ = some (.iface u v) → Value.okWide P w .any 0 u v) → GRel (Env.start w) (Gof T)
  | [], T, ps, h, _, _ => by
    simp [laidTab] at h; subst h
    intro g a ha
    simp [Gof] at ha
  | (name, d) :: r, T, ps, h, hL, hok => by
    simp only [laidTab] at h
    split at h <;> try (simp at h; done)
    rename_i x xs h1 h2
    simp only [Option.some.injEq] at h; subst h
    obtain ⟨g, t, cs, fuel, p, q, hg, ht, hv, hd, hr, rfl⟩ := hL
    simp only [laidAV, hg, ht, Option.map_eq_some_iff] at h1
    obtain ⟨as_, h1, rfl⟩ := h1
    have hrest := laid_rel hN h2 hr fun b off hm => hok b off (by simp [hm])
    intro k a ha
    simp only [Gof] at ha
    split at ha
    · rename_i he; subst he
      simp only [Option.some.injEq] at ha; subst ha
      have hvs := data_open hN h1 hd fun _ u v hm => by
        obtain ⟨i, hi⟩ := List.getElem?_of_mem hm
        refine hok k i ?_ u v ?_
        · simp only [List.mem_append, MemPlace.row, List.mem_map, List.mem_range]
          refine .inl (.inl ⟨i, ?_, by simp⟩)
          have := (List.getElem?_eq_some_iff.1 hi).1
          simpa using this
        · rw [World.var?_cell hg hv i]
          simpa using hi
      have hb : ∃ c e, w.heap[k]? = some (.cells cs c e) := by
        simp only [World.var?, hg, Option.bind_some] at hv
        split at hv <;> simp at hv
        subst hv
        rename_i hh; exact ⟨_, _, hh⟩
      obtain ⟨c, e, hb⟩ := hb
      exact ⟨.vptr (.inr ⟨cs, c, e, hb, by simp⟩) hvs, fun cs' e' => by cases e'; exact ⟨cs, c, e, hb, hvs⟩⟩
    · exact hrest k a ha
theorem laid_met (hN : ∀ name u u', N name = some u → P.typeName? 3 u' = some name → u' = u) {n : Nat} {L : List (String × DataW Unit)} (ht : (laidTab P N n L).isSome = true) (h : laidMet P L w) : GRel (Env.start w) (Gof ((laidTab P N n L).getD [])) := by
  obtain ⟨ps, h1, _, h3⟩ := h
  cases e : laidTab P N n L with
  | none => rw [e] at ht; simp at ht
  | some T => exact laid_rel hN e h1 fun b off hm => (h3 b off hm).2
end
end Go.Abs

namespace Go.Proofs.YthmnpnbcdoemfaaGreatDoor
open Go Go.Abs Go.RowKit
noncomputable def named : String → Option TypeId := fun s => if s = "*errors.errorString" then some 328 else none
theorem named_one (name : String) (u u' : TypeId) (h : named name = some u) (h' : Tryz.prog.typeName? 3 u' = some name) : u' = u := by
  unfold named at h
  split at h <;> try (simp at h; done)
  rename_i e; subst e
  simp only [Option.some.injEq] at h; subst h
  exact typeName_ptr_named (nm := "errors.errorString") (by kernel_rfl) (by kernel_rfl) (by decide) u' h'
def seatLaid : List (String × DataW Unit) := [("math/bits.deBruijn32tab", Rows.laid_math_bits_deBruijn32tab), ("math/bits.deBruijn64tab", Rows.laid_math_bits_deBruijn64tab), ("internal/strconv.uint64pow10", Rows.laid_internal_strconv_uint64pow10), ("unicode/utf8.acceptRanges", Rows.laid_unicode_utf8_acceptRanges), ("strconv.ErrRange", Rows.laid_strconv_ErrRange), ("strconv.ErrSyntax", Rows.laid_strconv_ErrSyntax), ("unicode/utf8.first", Rows.laid_unicode_utf8_first)]
noncomputable def tab : List (Nat × List AV) := (laidTab Tryz.prog named 8 seatLaid).getD []
theorem tab_ok : (laidTab Tryz.prog named 8 seatLaid).isSome = true := by kernel_rfl
theorem laid_start {w : World} (h : laidMet Tryz.prog seatLaid w) : GRel (Env.start w) (Gof tab) := laid_met named_one tab_ok h
theorem idx196 : IsIdx Tryz.prog 196 := ⟨⟨Tryz.f196, Tryz.func196, by kernel_rfl, by kernel_rfl, by kernel_rfl, by kernel_rfl⟩⟩
noncomputable def known : Ov := ovAdd 236 copyOv (ovAdd 196 idxOv (noOv))
theorem known_good (G : Nat → Option AV) : OvGoodK Tryz.prog G known := (ovAdd_good (copyOv_good isCopy) (ovAdd_good (idxOv_good idx196) (noOv_good _ _)))
end Go.Proofs.YthmnpnbcdoemfaaGreatDoor

namespace Go.Abs
open Go Go.RowKit Go.WideShapes Go.ChangeShapes
section
variable {H : Type} {enc : TypeId × Value → H} {P : Program}
theorem Olds.stays (hl : laidOutB P = true) {W W' : World} (hb : Olds W W') (sp : Nat → Bool) : ∀ {ts : List TypeId} {vs : List Value} {ds : List (DataW H)} {ps : List MemPlace}, (∀ t ∈ ts, P.readableRec t = true ∧ t < P.types.size) →
    DataW.TrodAll enc P W 0 (fun _ => true) true ts vs ds ps → (∀ x ∈ ps, x.block < W.heap.size ∧ sp x.block = true) → DataW.TrodAll enc P W' 0 sp true ts vs ds ps
  | [], [], [], ps, _, h, _ => h
  | t :: ts, v :: vs, d :: ds, ps, ht, h, hp => by
    obtain ⟨p, q, h1, h2, rfl⟩ := h
    obtain ⟨hr, hrow⟩ := ht t (by simp)
    refine ⟨p, q, ?_, Olds.stays hl hb sp (fun t ht' => ht t (by simp [ht'])) h2 (fun x hx => hp x (by simp [hx])), rfl⟩
    exact WideElems.Trod_stays hl hr hrow h1 (fun x hx => hb.same (hp x (by simp [hx])).1) (fun x hx => (hp x (by simp [hx])).2)
  | [], [], _ :: _, _, _, h, _ => h.elim
  | [], _ :: _, _, _, _, h, _ => by cases h
  | _ :: _, [], _, _, _, h, _ => by cases h
  | _ :: _, _ :: _, [], _, _, h, _ => by cases h
theorem open_arg {n : Nat} {t : TypeId} {v : Value} {d : DataW H} {ps : List MemPlace} {W : World} {base : Nat} (ht : plainTy P n t = true) (hs : (match P.underlying t with | some (.struct _) => false | _ => true) = true)
    (hv : Value.okWide P W .any base t v) (h : DataW.Trod enc P W 0 (fun _ => true) true t v d ps) : ∃ a, VRel (Env.start W) a v ∧ Shp P n t [a] := by
  obtain ⟨fuel, h⟩ := h
  obtain ⟨as_, h1, h2⟩ := open_plain ht h
  have hc : v.cells = #[v] := by
    unfold Value.okWide at hv
    have h0 := ht
    cases n with
    | zero => simp [plainTy] at ht
    | succ n =>
      unfold plainTy at ht
      split at ht <;> rename_i hu <;> first
        | (rw [hu] at hs; simp at hs; done)
        | (simp at ht; done)
        | (rw [hu] at hv
           simp only [Cell.okWide, hu] at hv
           cases v <;> first | rfl | (simp [Cell.ok, hu] at hv; done))
  rw [hc] at h1
  cases h1 with | cons h t => cases t; exact ⟨_, h, h2⟩
end
end Go.Abs

namespace Go.Lex
set_option linter.unusedSimpArgs false
open Go.Abs
noncomputable def blankN (n : Nat) : Bool := ifK (Nat.beq n 32) true (ifK (Nat.beq n 9) true (ifK (Nat.beq n 10) true (Nat.beq n 13)))
noncomputable def letterN (n : Nat) : Bool := ifK (Nat.ble 97 n) (Nat.ble n 122) false
noncomputable def digitN (n : Nat) : Bool := ifK (Nat.ble 48 n) (Nat.ble n 57) false
noncomputable def namecN (n : Nat) : Bool := ifK (letterN n) true (ifK (digitN n) true (Nat.beq n 95))
theorem ifK_if {R : Type} (b : Bool) (x y : R) : ifK b x y = if b = true then x else y := by cases b <;> rfl
theorem beq_toNat (b : UInt8) (n : UInt8) : Nat.beq b.toNat n.toNat = (b == n) := by
  rw [Bool.eq_iff_iff, Nat.beq_eq, beq_iff_eq, UInt8.toNat_inj]
theorem blankN_eq (b : UInt8) : blankN b.toNat = isBlank b := by
  have h1 := beq_toNat b 32
  have h2 := beq_toNat b 9
  have h3 := beq_toNat b 10
  have h4 := beq_toNat b 13
  have e1 : (32 : UInt8).toNat = 32 := rfl
  have e2 : (9 : UInt8).toNat = 9 := rfl
  have e3 : (10 : UInt8).toNat = 10 := rfl
  have e4 : (13 : UInt8).toNat = 13 := rfl
  rw [e1] at h1; rw [e2] at h2; rw [e3] at h3; rw [e4] at h4
  simp only [blankN, ifK_if, h1, h2, h3, h4, isBlank]
  cases b == 32 <;> cases b == 9 <;> cases b == 10 <;> cases b == 13 <;> rfl
theorem letterN_eq (b : UInt8) : letterN b.toNat = isLetter b := by
  simp only [letterN, ifK_if, isLetter, Nat.ble_eq]
  by_cases h : 97 ≤ b.toNat
  · rw [if_pos h, decide_eq_true h, Bool.true_and, Bool.eq_iff_iff, Nat.ble_eq, decide_eq_true_eq]
  · rw [if_neg h, decide_eq_false h, Bool.false_and]
theorem digitN_eq (b : UInt8) : digitN b.toNat = isDigit b := by
  simp only [digitN, ifK_if, isDigit, Nat.ble_eq]
  by_cases h : 48 ≤ b.toNat
  · rw [if_pos h, decide_eq_true h, Bool.true_and, Bool.eq_iff_iff, Nat.ble_eq, decide_eq_true_eq]
  · rw [if_neg h, decide_eq_false h, Bool.false_and]
theorem namecN_eq (b : UInt8) : namecN b.toNat = isNamec b := by
  have h1 := beq_toNat b 95
  have e1 : (95 : UInt8).toNat = 95 := rfl
  rw [e1] at h1
  simp only [namecN, ifK_if, letterN_eq, digitN_eq, isNamec, h1]
  cases isLetter b <;> cases isDigit b <;> rfl
noncomputable def frcA (l : Bs) : Bs → (Bs → Bool) → Bool := List.rec (motive := fun _ => Bs → (Bs → Bool) → Bool) (fun m k => revK m [] k) (fun b _ ih m k => natK b.toNat fun n => stepK (ih (UInt8.ofNat n :: m) k)) l
theorem frcA_eq : ∀ (l m : Bs) (k : Bs → Bool), frcA l m k = k (m.reverse ++ l)
  | [], m, k => by
    have e : frcA [] m k = revK m [] k := rfl
    rw [e, revK_eq]
  | b :: l, m, k => by
    have e : frcA (b :: l) m k = natK b.toNat fun n => frcA l (UInt8.ofNat n :: m) k := rfl
    rw [e, natK_eq, frcA_eq l]; simp
noncomputable def is45 (l : Bs) : Bool := List.rec (motive := fun _ => Bool) false (fun b _ _ => Nat.beq b.toNat 45) l
noncomputable def skK (l : Bs) : Bool → (Bs → Bool) → Bool := List.rec (motive := fun _ => Bool → (Bs → Bool) → Bool) (fun _ k => k [])
  (fun b l ih m k => natK b.toNat fun n => ifK m (ifK (Nat.beq n 10) (stepK (ih false k)) (stepK (ih true k)))
    (ifK (blankN n) (stepK (ih false k)) (ifK (Nat.beq n 45) (ifK (is45 l) (stepK (ih true k)) (k (b :: l))) (k (b :: l))))) l
theorem skK_eq : ∀ (l : Bs) (m : Bool) (k : Bs → Bool), skK l m k = k (betw (if m then l.dropWhile (fun b => b != 10) else l))
  | [], m, k => by
    have e : skK [] m k = k [] := rfl
    rw [e]; cases m <;> simp [betw_nil']
  | b :: l, m, k => by
    have e : skK (b :: l) m k = natK b.toNat fun n => ifK m (ifK (Nat.beq n 10) (skK l false k) (skK l true k))
      (ifK (blankN n) (skK l false k) (ifK (Nat.beq n 45) (ifK (is45 l) (skK l true k) (k (b :: l))) (k (b :: l)))) := rfl
    have h10 := beq_toNat b 10
    have h45 := beq_toNat b 45
    have e1 : (10 : UInt8).toNat = 10 := rfl
    have e2 : (45 : UInt8).toNat = 45 := rfl
    rw [e1] at h10; rw [e2] at h45
    rw [e, natK_eq, h10, blankN_eq, h45, skK_eq l, skK_eq l]
    cases m with
    | true =>
      simp only [ifK_if, if_true]
      by_cases hb : b = 10
      · subst hb
        simp only [beq_self_eq_true, if_true, Bool.false_eq_true, if_false]
        rw [List.dropWhile_cons]
        simp only [bne_self_eq_false, Bool.false_eq_true, if_false]
        rw [betw_blank (by decide)]
      · have h1 : (b == 10) = false := by simpa using hb
        have h2 : (b != 10) = true := by simpa using hb
        simp only [h1, Bool.false_eq_true, if_false, if_true]
        rw [List.dropWhile_cons, h2, if_pos rfl]
    | false =>
      simp only [ifK_if, Bool.false_eq_true, if_false, if_true]
      cases hb : isBlank b with
      | true => simp only [if_true]; rw [betw_blank hb]
      | false =>
        simp only [Bool.false_eq_true, if_false]
        by_cases h4 : b = 45
        · subst h4
          simp only [beq_self_eq_true, if_true]
          cases l with
          | nil =>
            have : is45 [] = false := rfl
            rw [this]
            simp only [Bool.false_eq_true, if_false]
            rw [betw_here hb (by simp)]
          | cons c q =>
            have hc : is45 (c :: q) = (c == 45) := by
              have := beq_toNat c 45
              rw [e2] at this
              exact this
            rw [hc]
            by_cases hc4 : c = 45
            · subst hc4
              simp only [beq_self_eq_true, if_true]
              rw [betw_rem, List.dropWhile_cons]
              simp
            · have : (c == 45) = false := by simpa using hc4
              rw [this]
              simp only [Bool.false_eq_true, if_false]
              rw [betw_here hb (by intro q h; simp at h; exact hc4 h.1)]
        · have : (b == 45) = false := by simpa using h4
          rw [this]
          simp only [Bool.false_eq_true, if_false]
          rw [betw_here hb (by intro q h; simp at h; exact h4 h.1)]
noncomputable def spK (p : Nat → Bool) (l : Bs) : Bs → (Bs → Bs → Bool) → Bool := List.rec (motive := fun _ => Bs → (Bs → Bs → Bool) → Bool) (fun m k => revK m [] fun t => k t [])
  (fun b l ih m k => natK b.toNat fun n => ifK (p n) (stepK (ih (b :: m) k)) (revK m [] fun t => k t (b :: l))) l
theorem spK_eq {p : Nat → Bool} {q : UInt8 → Bool} (h : ∀ b, p b.toNat = q b) : ∀ (l m : Bs) (k : Bs → Bs → Bool), spK p l m k = k (m.reverse ++ l.takeWhile q) (l.drop (l.takeWhile q).length)
  | [], m, k => by
    have e : spK p [] m k = revK m [] fun t => k t [] := rfl
    rw [e, revK_eq]; simp
  | b :: l, m, k => by
    have e : spK p (b :: l) m k = natK b.toNat fun n => ifK (p n) (spK p l (b :: m) k) (revK m [] fun t => k t (b :: l)) := rfl
    rw [e, natK_eq, h, spK_eq h l, revK_eq, List.takeWhile_cons]
    cases q b <;> simp
noncomputable def eqN (w : List Nat) : Bs → Bool := List.rec (motive := fun _ => Bs → Bool) (fun s => nilB s) (fun x _ ih s => List.rec (motive := fun _ => Bool) false (fun b r _ => ifK (Nat.beq b.toNat x) (ih r) false) s) w
theorem eqN_eq : ∀ (w : List Nat) (s : Bs), eqN w s = true ↔ s.map (·.toNat) = w
  | [], s => by
    have e : eqN [] s = nilB s := rfl
    rw [e, nilB_eq]; cases s <;> simp
  | x :: w, [] => by
    have e : eqN (x :: w) [] = false := rfl
    rw [e]; simp
  | x :: w, b :: s => by
    have e : eqN (x :: w) (b :: s) = ifK (Nat.beq b.toNat x) (eqN w s) false := rfl
    rw [e, ifK_if]
    by_cases h : b.toNat = x
    · have : Nat.beq b.toNat x = true := by rw [Nat.beq_eq]; exact h
      rw [if_pos this, eqN_eq w s]; simp [h]
    · have : ¬ Nat.beq b.toNat x = true := by rw [Nat.beq_eq]; exact h
      rw [if_neg this]; simp [h]
noncomputable def anyN (ws : List (List Nat)) (s : Bs) : Bool := List.rec (motive := fun _ => Bool) false (fun w _ ih => ifK (eqN w s) true ih) ws
theorem anyN_eq (s : Bs) : ∀ ws : List (List Nat), anyN ws s = true ↔ s.map (·.toNat) ∈ ws
  | [] => by simp [anyN]
  | w :: ws => by
    have e : anyN (w :: ws) s = ifK (eqN w s) true (anyN ws s) := rfl
    rw [e, ifK_if]
    by_cases h : eqN w s = true
    · rw [if_pos h]; simp [(eqN_eq w s).1 h]
    · rw [if_neg h, anyN_eq s ws]
      have : ¬ s.map (·.toNat) = w := fun e => h ((eqN_eq w s).2 e)
      simp [this]
def keptN : List (List Nat) := [[110,111,100,101],[114,101,116,117,114,110,115],[118,97,114],[108,101,116],[116,101,108],[98,111,111,108],[105,110,116],[116,114,117,101],[102,97,108,115,101],[110,111,116],[97,110,100],[111,114],[120,111,114],[109,111,100],[105,102],[116,104,101,110],[101,108,115,101],[112,114,101],[102,98,121],[119,104,101,110],[109,101,114,103,101]]
theorem toNat_map_inj : ∀ {a b : Bs}, a.map (·.toNat) = b.map (·.toNat) → a = b
  | [], [], _ => rfl
  | [], _ :: _, h => by simp at h
  | _ :: _, [], h => by simp at h
  | x :: a, y :: b, h => by
    simp only [List.map_cons, List.cons.injEq] at h
    rw [UInt8.toNat_inj.1 h.1, toNat_map_inj h.2]
theorem keptN_eq (s : Bs) : anyN keptN s = kept s := by
  rw [Bool.eq_iff_iff, anyN_eq]
  have hk : keptN = keptWords.map (fun w => w.map (·.toNat)) := rfl
  unfold kept
  rw [hk, List.mem_map, List.contains_iff_mem]
  constructor
  · rintro ⟨w, hw, e⟩; rw [← toNat_map_inj e]; exact hw
  · intro h; exact ⟨s, h, rfl⟩
noncomputable def prN (w : List Nat) : Bs → (Bs → Bool) → Bool → Bool := List.rec (motive := fun _ => Bs → (Bs → Bool) → Bool → Bool) (fun s k _ => k s)
  (fun x _ ih s k z => List.rec (motive := fun _ => Bool) z (fun b r _ => ifK (Nat.beq b.toNat x) (ih r k z) z) s) w
theorem prN_eq : ∀ (w s : Bs) (k : Bs → Bool) (z : Bool), prN (w.map (·.toNat)) s k z = if w.isPrefixOf s then k (s.drop w.length) else z
  | [], s, k, z => by
    have e : prN (([] : Bs).map (·.toNat)) s k z = k s := rfl
    rw [e]; simp
  | x :: w, [], k, z => by
    have e : prN ((x :: w).map (·.toNat)) [] k z = z := rfl
    rw [e]; simp
  | x :: w, b :: s, k, z => by
    have e : prN ((x :: w).map (·.toNat)) (b :: s) k z = ifK (Nat.beq b.toNat x.toNat) (prN (w.map (·.toNat)) s k z) z := rfl
    rw [e, beq_toNat, prN_eq w s, ifK_if]
    by_cases h : b = x
    · subst h; simp
    · have h1 : (b == x) = false := by simpa using h
      have h2 : (x == b) = false := by simpa using fun e => h e.symm
      rw [h1]; simp [List.isPrefixOf, h2]
noncomputable def sgK (ws : List Bs) (s : Bs) (k : Bs → Bs → Bool) (z : Bool) : Bool := List.rec (motive := fun _ => Bool) z (fun w _ ih => prN (w.map (·.toNat)) s (fun r => k w r) ih) ws
theorem sgK_eq (s : Bs) (k : Bs → Bs → Bool) (z : Bool) : ∀ ws : List Bs, sgK ws s k z = match ws.find? fun x => x.isPrefixOf s with | some t => k t (s.drop t.length) | none => z
  | [] => rfl
  | w :: ws => by
    have e : sgK (w :: ws) s k z = prN (w.map (·.toNat)) s (fun r => k w r) (sgK ws s k z) := rfl
    rw [e, prN_eq, sgK_eq s k z ws, List.find?_cons]
    cases w.isPrefixOf s <;> rfl
noncomputable def numN (l : Bs) : Nat → Nat := List.rec (motive := fun _ => Nat → Nat) (fun n => n) (fun b _ ih n => natK (Nat.add (Nat.mul 10 n) (Nat.sub b.toNat 48)) fun n => ih n) l
theorem numN_eq : ∀ (l : Bs) (n : Nat), numN l n = l.foldl (fun n b => 10 * n + (b.toNat - 48)) n
  | [], n => rfl
  | b :: l, n => by
    have e : numN (b :: l) n = natK (10 * n + (b.toNat - 48)) fun n => numN l n := rfl
    rw [e, natK_eq, numN_eq l]; rfl
noncomputable def wdK (s : Bs) (k : Nat → Bs → Nat → Bs → Bool) (z : Bool) : Bool :=
  List.rec (motive := fun _ => Bool) z (fun b _ _ => natK b.toNat fun n =>
    ifK (letterN n) (spK namecN s [] fun t r => ifK (anyN keptN t) (k 2 t 0 r) (ifK (Nat.ble (lenN t) 24) (k 1 t 0 r) z))
      (ifK (digitN n) (spK digitN s [] fun t r => natK (numN t 0) fun v => ifK (Nat.blt v 9223372036854775808) (ifK (Nat.beq (lenN t) 1) (k 3 t v r) (ifK (Nat.beq n 48) z (k 3 t v r))) z)
        (sgK signs s (fun t r => k 4 t 0 r) z))) s
theorem wdK_eq (s : Bs) (k : Nat → Bs → Nat → Bs → Bool) (z : Bool) : wdK s k z = match wordS s with | some w => k w.kind w.text w.n (s.drop w.text.length) | none => z := by
  cases s with
  | nil => rfl
  | cons b r =>
    have e : wdK (b :: r) k z = natK b.toNat fun n =>
      ifK (letterN n) (spK namecN (b :: r) [] fun t r => ifK (anyN keptN t) (k 2 t 0 r) (ifK (Nat.ble (lenN t) 24) (k 1 t 0 r) z))
      (ifK (digitN n) (spK digitN (b :: r) [] fun t r => natK (numN t 0) fun v => ifK (Nat.blt v 9223372036854775808) (ifK (Nat.beq (lenN t) 1) (k 3 t v r) (ifK (Nat.beq n 48) z (k 3 t v r))) z)
        (sgK signs (b :: r) (fun t r => k 4 t 0 r) z)) := rfl
    have h48 := beq_toNat b 48
    have e1 : (48 : UInt8).toNat = 48 := rfl
    rw [e1] at h48
    rw [e]
    simp only [natK_eq, letterN_eq, digitN_eq, spK_eq namecN_eq, spK_eq digitN_eq, keptN_eq, lenN_eq, numN_eq, sgK_eq, ifK_if, List.reverse_nil, List.nil_append, h48, wordS, signOf, numVal, Nat.ble_eq, Nat.beq_eq, Nat.blt_eq, beq_iff_eq]
    by_cases h1 : isLetter b = true
    · simp only [Bool.false_eq_true, h1, if_true]
      by_cases h2 : kept (List.takeWhile isNamec (b :: r)) = true
      · simp only [Bool.false_eq_true, h2, if_true]
      · simp only [Bool.false_eq_true, h2, if_false]
        by_cases h3 : (List.takeWhile isNamec (b :: r)).length ≤ 24
        · simp only [Bool.false_eq_true, h3, if_true]
        · simp only [Bool.false_eq_true, h3, if_false]
    · simp only [Bool.false_eq_true, h1, if_false]
      by_cases h2 : isDigit b = true
      · simp only [Bool.false_eq_true, h2, if_true]
        by_cases h3 : List.foldl (fun n b => 10 * n + (b.toNat - 48)) 0 (List.takeWhile isDigit (b :: r)) < 9223372036854775808
        · by_cases h4 : (List.takeWhile isDigit (b :: r)).length = 1
          · simp only [Bool.false_eq_true, h3, h4, if_true, true_or, and_self]
          · have e48 : (b.toNat = 48) ↔ b = 48 := by
              have := beq_toNat b 48
              rw [e1] at this
              rw [← Nat.beq_eq, this, beq_iff_eq]
            by_cases h5 : b = 48
            · have h6 := e48.2 h5
              have h7 : ¬ (List.foldl (fun n b => 10 * n + (b.toNat - 48)) 0 (List.takeWhile isDigit (b :: r)) < 9223372036854775808 ∧ ((List.takeWhile isDigit (b :: r)).length = 1 ∨ b ≠ 48)) := fun ⟨_, x⟩ => by
                rcases x with x | x
                · exact h4 x
                · exact x h5
              have h5' := eq_true h5
              have h6' := eq_true h6
              simp only [h3, h4, h5', h6', ne_eq, not_true_eq_false, if_true, if_false, or_self, and_false]
            · have h6 : ¬ b.toNat = 48 := fun e => h5 (e48.1 e)
              simp only [h3, h4, h5, h6, ne_eq, not_false_eq_true, if_true, if_false, or_true, and_self]
        · simp only [Bool.false_eq_true, h3, if_false, false_and]
      · simp only [Bool.false_eq_true, h2, if_false]
        cases List.find? (fun x => x.isPrefixOf (b :: r)) signs <;> rfl
noncomputable def ctK (n : Nat) (fuel : Nat) : Bs → List AV → Nat → (List AV → Nat → Bool) → (Nat → Bool) → Bool :=
  Nat.rec (motive := fun _ => Bs → List AV → Nat → (List AV → Nat → Bool) → (Nat → Bool) → Bool) (fun _ _ _ _ _ => false)
    (fun _ ih s m c k z => skK s false fun r => List.rec (motive := fun _ => Bool) (revK (.int .i64 (.ofNat n) :: .int .i64 (.ofNat 0) :: .str [] :: .int .i64 (.ofNat 0) :: m) [] fun cs => natK (Nat.succ c) fun c => k cs c)
      (fun _ _ _ => natK (Nat.sub n (lenN r)) fun at_ => wdK r (fun kd t v q => natK (Nat.succ c) fun c => stepK (ih q (.int .i64 (.ofNat at_) :: .int .i64 (.ofNat v) :: .str t :: .int .i64 (.ofNat kd) :: m) c k z)) (z at_)) r) fuel
def cellsW : List (Nat × Wd) → List AV
  | [] => []
  | (i, w) :: l => [.int .i64 w.kind, .str w.text, .int .i64 w.n, .int .i64 i] ++ cellsW l
theorem ctK_inv (n : Nat) : ∀ (fuel : Nat) (s : Bs) (m : List AV) (c : Nat) (k : List AV → Nat → Bool) (z : Nat → Bool), ctK n fuel s m c k z = true →
    (match cutS n s with
    | .ok l => k (m.reverse ++ cellsW l ++ [.int .i64 0, .str [], .int .i64 0, .int .i64 n]) (c + l.length + 1)
    | .error e => z e) = true
  | 0, s, m, c, k, z, h => by have h : false = true := h; simp at h
  | fuel + 1, s, m, c, k, z, h => by
    have h : (skK s false fun r => List.rec (motive := fun _ => Bool) (revK (.int .i64 (.ofNat n) :: .int .i64 (.ofNat 0) :: .str [] :: .int .i64 (.ofNat 0) :: m) [] fun cs => natK (Nat.succ c) fun c => k cs c)
      (fun _ _ _ => natK (Nat.sub n (lenN r)) fun at_ => wdK r (fun kd t v q => natK (Nat.succ c) fun c => ctK n fuel q (.int .i64 (.ofNat at_) :: .int .i64 (.ofNat v) :: .str t :: .int .i64 (.ofNat kd) :: m) c k z) (z at_)) r) = true := h
    rw [skK_eq] at h
    simp only [Bool.false_eq_true, if_false] at h
    cases hb : betw s with
    | nil =>
      rw [hb] at h
      simp only [revK_eq, natK_eq] at h
      rw [cutS_end hb]
      simpa [cellsW] using h
    | cons b r =>
      rw [hb] at h
      simp only [natK_eq, lenN_eq, wdK_eq] at h
      cases hw : wordS (b :: r) with
      | none =>
        rw [hw] at h
        rw [cutS_bad hb hw]
        exact h
      | some w =>
        rw [hw] at h
        rw [cutS_word hb hw]
        have ih := ctK_inv n fuel _ _ _ _ _ h
        revert ih
        cases cutS n ((b :: r).drop w.text.length) with
        | ok l =>
          intro ih
          have e : c + (((n - (b :: r).length, w) :: l).length) + 1 = c.succ + l.length + 1 := by simp; omega
          simp only [e]
          simpa [cellsW] using ih
        | error e => exact fun ih => ih
noncomputable def cutOv (args : List AV) (H : FH) (k : AV → FH → Bool) : Bool :=
  oneKK args (fun a => a.onStr false fun s => natK (lenN s) fun n => ifK (Nat.ble n 140737488355328) (ifK (Nat.ble n 16384)
    (frcA s [] fun s => ctK n (Nat.succ n) s [] 0 (fun cs c => k (.tuple [.vsl cs c, .agg [.int .i64 (.ofNat 0), .int .i64 (.ofNat 0)]]) H) (fun e => k (.tuple [.nilsl, .agg [.int .i64 (.ofNat 7), .int .i64 (.ofNat e)]]) H))
    (k (.tuple [.nilsl, .agg [.int .i64 (.ofNat 2), .int .i64 (.ofNat n)]]) H)) false) false
def cutA (t : Bs) : AV := if 16384 < t.length then .tuple [.nilsl, .agg [.int .i64 2, .int .i64 t.length]] else match cutS t.length t with
  | .ok l => .tuple [.vsl (cellsW l ++ [.int .i64 0, .str [], .int .i64 0, .int .i64 t.length]) (l.length + 1), .agg [.int .i64 0, .int .i64 0]]
  | .error e => .tuple [.nilsl, .agg [.int .i64 7, .int .i64 e]]
theorem cutOv_inv {args : List AV} {H : FH} {k : AV → FH → Bool} (h : cutOv args H k = true) : ∃ s : Bs, args = [.str s] ∧ s.length ≤ 140737488355328 ∧ k (cutA s) H = true := by
  obtain ⟨a, rfl, h0⟩ := oneKK_inv h
  rcases AV.onStr_inv h0 with ⟨s, rfl, h1⟩ | ⟨h1, _⟩
  case inr => simp at h1
  clear h h0
  rw [natK_eq, lenN_eq] at h1
  obtain ⟨hb, h⟩ := ifK_inv h1
  clear h1
  have hb : s.length ≤ 140737488355328 := Nat.le_of_ble_eq_true hb
  refine ⟨s, rfl, hb, ?_⟩
  simp only [ifK_if, Nat.ble_eq] at h
  by_cases hl : s.length ≤ 16384
  · rw [if_pos hl, frcA_eq] at h
    have h1 := ctK_inv _ _ _ _ _ _ _ h
    simp only [List.reverse_nil, List.nil_append, Nat.zero_add] at h1
    unfold cutA
    rw [if_neg (by omega)]
    cases hc : cutS s.length s with
    | ok l => rw [hc] at h1; exact h1
    | error e => rw [hc] at h1; exact h1
  · rw [if_neg hl] at h
    unfold cutA
    rw [if_pos (by omega)]
    exact h
end Go.Lex

namespace Go.Abs
open Go
noncomputable def Env.asideF (E : Env) (H : AHeap) (w : World) : Env := by
  classical
  exact { φ := fun _ => none, K := E.K, F := fun B => if (∃ i x p, H.get i = some x ∧ E.φ i = some p ∧ p.b = B) then w.heap[B]? else E.F B, os := E.os, out := E.out }
theorem aside_live {E : Env} {H : AHeap} {w : World} {B i : Nat} {x : AObj} {p : Place} (hi : H.get i = some x) (hp : E.φ i = some p) (hb : p.b = B) : (E.asideF H w).F B = w.heap[B]? := by
  unfold Env.asideF
  exact if_pos ⟨i, x, p, hi, hp, hb⟩
theorem aside_cases (E : Env) (H : AHeap) (w : World) (B : Nat) : (E.asideF H w).F B = E.F B ∨ (∃ i x p, H.get i = some x ∧ E.φ i = some p ∧ p.b = B) := by
  by_cases h : ∃ i x p, H.get i = some x ∧ E.φ i = some p ∧ p.b = B
  · exact .inr h
  · left; unfold Env.asideF; exact if_neg h
theorem Does.frame {P : Program} {G : Nat → Option AV} {f : FuncId} {args : List AV} {n : Nat} {R : AV → AHeap → Prop} (h : Does P G f args (AHeap.empty n) R) (ha : AV.allLt 0 args = true) (hG : ∀ g a, G g = some a → a.idLt 0 = true)
    (hr : ∀ r H1, R r H1 → r.idLt 0 = true) (H : AHeap) : Does P G f args H fun r h => (∃ H1, R r H1) ∧ h = H :=
  ⟨fun E w vs hR hG' hv => by
    have hlive : ∀ i x p, H.get i = some x → E.φ i = some p → E.K p.b = none ∧ E.F p.b = none ∧ ∃ ob, w.heap[p.b]? = some ob ∧ ORel E p x ob := fun i x p hi hp => by
      obtain ⟨q, ob, h1, h2, h3, h4, h5⟩ := hR.live i x hi
      rw [hp] at h1; cases h1
      exact ⟨h2, h3, ob, h4, h5⟩
    have hR0 : Rel (E.asideF H w) (AHeap.empty n) w := by
      refine ⟨hR.os, hR.out, hR.K, fun B o hB => ?_, fun B => ?_, fun i p hp => ?_, fun i x hi => ?_, fun i j x y p q hi => ?_⟩
      · rcases aside_cases E H w B with e | ⟨i, x, p, hi, hp, rfl⟩
        · rw [e] at hB; exact hR.F B o hB
        · rw [aside_live hi hp rfl] at hB; exact hB
      · rcases aside_cases E H w B with e | ⟨i, x, p, hi, hp, rfl⟩
        · rw [e]; exact hR.KF B
        · exact .inl (hlive i x p hi hp).1
      · have : (none : Option Place) = some p := hp
        simp at this
      · simp [AHeap.empty] at hi
      · simp [AHeap.empty] at hi
    have kn : Knows (E.cut 0) (E.asideF H w) := ⟨fun i p hp => by simp [Env.cut] at hp, fun _ _ h => h⟩
    refine (h.run _ w vs hR0 ((GRel.cut hG' hG).mono kn) ((VRels.cut hv ha).mono kn)).mono ?_
    rintro v w' ⟨r, H1, E1, g1, g2, g3, g4⟩
    have hKE : ∀ B o, E.K B = some o → E1.K B = some o := g2.K
    have hF1 : E1.F = (E.asideF H w).F := g2.F
    have hkn : Knows E { E with K := E1.K } := ⟨fun _ _ h => h, hKE⟩
    refine ⟨r, H, { E with K := E1.K }, ⟨⟨H1, g1⟩, rfl⟩, ⟨fun _ _ h => h, hKE, rfl, rfl, rfl⟩, ?_, ?_⟩
    · exact VRel.mono (E := E1.cut 0) (E' := { E with K := E1.K }) ⟨fun i p hp => by simp [Env.cut] at hp, fun _ _ h => h⟩ (VRel.cut g3 (hr r H1 g1))
    · refine ⟨g4.os.trans g2.os, g4.out.trans g2.out, g4.K, fun B o hB => ?_, fun B => ?_, hR.dom, fun i x hi => ?_, hR.inj⟩
      · refine g4.F B o ?_
        rw [hF1]
        rcases aside_cases E H w B with e | ⟨i, x, p, hi, hp, rfl⟩
        · rw [e]; exact hB
        · have h2 := (hlive i x p hi hp).2.1
          have hB : E.F p.b = some o := hB
          rw [h2] at hB; simp at hB
      · rcases g4.KF B with e | e
        · exact .inl e
        · rw [hF1] at e
          rcases aside_cases E H w B with e' | ⟨i, x, p, hi, hp, rfl⟩
          · rw [e'] at e; exact .inr e
          · exact .inr (hlive i x p hi hp).2.1
      · obtain ⟨p, ob, h1, h2, h3, h4, h5⟩ := hR.live i x hi
        have hF0 : E1.F p.b = some ob := by rw [hF1, aside_live hi h1 rfl]; exact h4
        refine ⟨p, ob, h1, ?_, h3, g4.F _ _ hF0, h5.mono hkn⟩
        rcases g4.KF p.b with e | e
        · exact e
        · rw [hF0] at e; simp at e⟩
end Go.Abs

namespace Go.Abs
open Go
def optAll {α : Type} : List (Option α) → Option (List α)
  | [] => some []
  | none :: _ => none
  | some a :: l => (optAll l).map (a :: ·)
def AV.res (get : Nat → Option AObj) : Nat → AV → Option AV
  | 0, _ => none
  | n + 1, v => match v with
    | .ptr i o => match get i with
      | some (.cells cs) => (optAll ((cs.drop o).map (AV.res get n))).map .vptr
      | _ => none
    | .sl i o z len _ _ => match get i with
      | some (.cells cs) => (optAll (((cs.drop o).take (len * z)).map (AV.res get n))).map (.vsl · len)
      | _ => none
    | .vptr cs => (optAll (cs.map (AV.res get n))).map .vptr
    | .vsl cs len => (optAll (cs.map (AV.res get n))).map (.vsl · len)
    | .func f a b => match optAll (a.map (AV.res get n)), optAll (b.map (AV.res get n)) with
      | some a, some b => some (.func f a b)
      | _, _ => none
    | .iface t v => (AV.res get n v).map (.iface t)
    | .agg cs => (optAll (cs.map (AV.res get n))).map .agg
    | .tuple cs => (optAll (cs.map (AV.res get n))).map .tuple
    | .map _ => none
    | v => some v
def Env.all (E : Env) (w : World) : Env := { E with K := fun B => match E.F B with | some _ => none | none => w.heap[B]? }
theorem all_ext {E : Env} {H : AHeap} {w : World} (hR : Rel E H w) : Ext E (E.all w) := by
  refine ⟨fun _ _ h => h, fun B o hB => ?_, rfl, rfl, rfl⟩
  have hF : E.F B = none := by
    rcases hR.KF B with e | e
    · rw [hB] at e; simp at e
    · exact e
  show (match E.F B with | some _ => none | none => w.heap[B]?) = some o
  rw [hF]; exact hR.K B o hB
theorem all_rel {E : Env} {H : AHeap} {w : World} (hR : Rel E H w) : Rel (E.all w) (AHeap.empty H.next) w := by
  refine ⟨hR.os, hR.out, fun B o hB => ?_, hR.F, fun B => ?_, hR.dom, fun i x hi => by simp [AHeap.empty] at hi, fun i j x y p q hi => by simp [AHeap.empty] at hi⟩
  · have hB : (match E.F B with | some _ => none | none => w.heap[B]?) = some o := hB
    split at hB
    · simp at hB
    · exact hB
  · cases hF : E.F B with
    | none => exact .inr hF
    | some o =>
      left
      show (match E.F B with | some _ => none | none => w.heap[B]?) = none
      rw [hF]
theorem live_ink {E : Env} {H : AHeap} {w : World} (hR : Rel E H w) {i : Nat} {cs : List AV} {p : Place} (hi : H.get i = some (.cells cs)) (hp : E.φ i = some p) (o : Nat) :
    ∃ vs, InK (E.all w) p.b (p.s + o) vs ∧ VRels E (cs.drop o) vs := by
  obtain ⟨q, ob, h1, h2, h3, h4, c, e, fz, vs, rfl, _, h6, h7, _⟩ := hR.live i _ hi
  rw [hp] at h1; cases h1
  refine ⟨vs.drop o, .inr ⟨c, e, fz, ?_, ?_⟩, h6.drop o⟩
  · show (match E.F p.b with | some _ => none | none => w.heap[p.b]?) = _
    rw [h3]; exact h4
  · obtain ⟨t, ht⟩ := h7
    rw [← List.drop_drop, ← ht]
    by_cases ho : o ≤ vs.length
    · rw [List.drop_append_of_le_length ho]; exact List.prefix_append _ _
    · rw [List.drop_of_length_le (by omega)]; exact List.nil_prefix
theorem res_list {E' : Env} {E : Env} {get : Nat → Option AObj} {n : Nat} (ih : ∀ v u r, VRel E v u → v.res get n = some r → VRel E' r u) : ∀ {vs us rs}, VRels E vs us → optAll (vs.map (AV.res get n)) = some rs → VRels E' rs us
  | [], us, rs, h, hr => by
    cases h
    simp [optAll] at hr; subst hr; exact .nil
  | v :: vs, us, rs, h, hr => by
    cases h with
    | cons h t =>
      simp only [List.map_cons] at hr
      cases hv : AV.res get n v with
      | none => rw [hv] at hr; simp [optAll] at hr
      | some a =>
        rw [hv] at hr
        simp only [optAll, Option.map_eq_some_iff] at hr
        obtain ⟨l, hl, rfl⟩ := hr
        exact .cons (ih _ _ _ h hv) (res_list ih t hl)
theorem VRel.res {E : Env} {H : AHeap} {w : World} (hR : Rel E H w) : ∀ (n : Nat) (v : AV) (u : Value) (r : AV), VRel E v u → v.res H.get n = some r → VRel (E.all w) r u
  | 0, v, u, r, _, hr => by simp [AV.res] at hr
  | n + 1, v, u, r, h, hr => by
    have ih := VRel.res hR n
    have hk := (all_ext hR).knows
    cases h with
    | bool b => simp [AV.res] at hr; subst hr; exact .bool b
    | int k m => simp [AV.res] at hr; subst hr; exact .int k m
    | str s => simp [AV.res] at hr; subst hr; exact .str s
    | nilptr => simp [AV.res] at hr; subst hr; exact .nilptr
    | nilsl => simp [AV.res] at hr; subst hr; exact .nilsl
    | nilmap => simp [AV.res] at hr; subst hr; exact .nilmap
    | nilfunc => simp [AV.res] at hr; subst hr; exact .nilfunc
    | niliface => simp [AV.res] at hr; subst hr; exact .niliface
    | map h => simp [AV.res] at hr
    | vsl0 => simp [AV.res, optAll] at hr; subst hr; exact .vsl0
    | @ptr i o p h =>
      simp only [AV.res] at hr
      split at hr <;> try (simp at hr; done)
      rename_i cs hi
      simp only [Option.map_eq_some_iff] at hr
      obtain ⟨rs, hr, rfl⟩ := hr
      obtain ⟨vs, h1, h2⟩ := live_ink hR hi h o
      exact .vptr h1 (res_list ih h2 hr)
    | @sl i o z len cap c' opn p h hl hc ho hn =>
      simp only [AV.res] at hr
      split at hr <;> try (simp at hr; done)
      rename_i cs hi
      simp only [Option.map_eq_some_iff] at hr
      obtain ⟨rs, hr, rfl⟩ := hr
      obtain ⟨vs, h1, h2⟩ := live_ink hR hi h o
      refine .vsl (vs := vs.take (len * z)) ?_ (res_list ih (h2.take _) hr) (Nat.le_trans hl hc)
      rcases h1 with h1 | ⟨c, e, f, g1, g2⟩
      · left; rw [h1]; simp
      · exact .inr ⟨c, e, f, g1, (List.take_prefix _ _).trans g2⟩
    | vptr hK hv =>
      simp only [AV.res, Option.map_eq_some_iff] at hr
      obtain ⟨rs, hr, rfl⟩ := hr
      exact .vptr (hK.mono hk) (res_list ih hv hr)
    | vsl hK hv hl =>
      simp only [AV.res, Option.map_eq_some_iff] at hr
      obtain ⟨rs, hr, rfl⟩ := hr
      exact .vsl (hK.mono hk) (res_list ih hv hr) hl
    | func hf hc =>
      simp only [AV.res] at hr
      split at hr <;> try (simp at hr; done)
      rename_i a b ha hb
      simp only [Option.some.injEq] at hr; subst hr
      exact .func (res_list ih hf ha) (res_list ih hc hb)
    | iface h =>
      simp only [AV.res, Option.map_eq_some_iff] at hr
      obtain ⟨rs, hr, rfl⟩ := hr
      exact .iface (ih _ _ _ h hr)
    | agg h =>
      simp only [AV.res, Option.map_eq_some_iff] at hr
      obtain ⟨rs, hr, rfl⟩ := hr
      exact .agg (res_list ih h hr)
    | tuple h =>
      simp only [AV.res, Option.map_eq_some_iff] at hr
      obtain ⟨rs, hr, rfl⟩ := hr
      exact .tuple (res_list ih h hr)
theorem Ghost.res {n m : Nat} {v r : AV} {H : AHeap} (h : v.res H.get m = some r) : Ghost n v H r (AHeap.empty H.next) := fun _ _ _ _ _ hx hv hR => ⟨_, hx.trans (all_ext hR), VRel.res hR _ _ _ _ hv h, all_rel hR⟩
noncomputable def litK (lit : AV) (v : AV) (H : FH) : Bool := match v.res H.abs.get 1000 with
  | some r => r.beq lit
  | none => false
theorem lit_does {P : Program} {G : Nat → Option AV} {ov : Ov} {f : FuncId} {fuel n : Nat} {args : List AV} {lit : AV} (hm : P.follows .mixedOrders = true) (hp : plainFn P = true) (hov : OvGoodK P G ov) (hG : ∀ g a, G g = some a → a.idLt 0 = true)
    (ha : AV.allLt 0 args = true) (hl : lit.idLt 0 = true) (h : fcall ov P G fuel n f args FH.empty (litK lit) = true) (H : AHeap) : Does P G f args H fun r h => r = lit ∧ h = H := by
  obtain ⟨v, H', hd, _, hk⟩ := fcall_sound hm hp hov n f args FH.empty _ h
  rw [FH.abs_empty] at hd
  unfold litK at hk
  split at hk <;> try (simp at hk; done)
  rename_i r hr
  have hk := AV.beq_eq _ _ hk
  subst hk
  have h1 : Does P G f args (AHeap.empty 0) fun x _ => x = r := hd.ghost fun x h ⟨h1, h2⟩ => ⟨r, AHeap.empty H'.abs.next, by subst h1; subst h2; exact Ghost.res hr, rfl⟩
  exact (h1.frame ha hG (fun x _ hx => by rw [hx]; exact hl) H).mono fun x h ⟨⟨_, h2⟩, h3⟩ => ⟨h2, h3⟩
end Go.Abs

namespace Go.Abs
open Go
mutual
def AV.ren (ρ : Nat → Nat) : AV → AV
  | .bool b => .bool b
  | .int k n => .int k n
  | .str s => .str s
  | .nilptr => .nilptr
  | .ptr i o => .ptr (ρ i) o
  | .vptr cs => .vptr (AV.rens ρ cs)
  | .nilsl => .nilsl
  | .sl i o z len cap opn => .sl (ρ i) o z len cap opn
  | .vsl cs n => .vsl (AV.rens ρ cs) n
  | .nilmap => .nilmap
  | .map i => .map (ρ i)
  | .func f a b => .func f (AV.rens ρ a) (AV.rens ρ b)
  | .nilfunc => .nilfunc
  | .iface t v => .iface t (AV.ren ρ v)
  | .niliface => .niliface
  | .agg cs => .agg (AV.rens ρ cs)
  | .tuple cs => .tuple (AV.rens ρ cs)
def AV.rens (ρ : Nat → Nat) : List AV → List AV
  | [] => []
  | a :: l => AV.ren ρ a :: AV.rens ρ l
end
def AObj.ren (ρ : Nat → Nat) : AObj → AObj
  | .cells cs => .cells (AV.rens ρ cs)
  | .row t cs => .row t (AV.rens ρ cs)
  | .map es => .map (es.map fun e => (e.1.ren ρ, e.2.ren ρ))
theorem rens_map (ρ : Nat → Nat) : ∀ l : List AV, AV.rens ρ l = l.map (AV.ren ρ)
  | [] => rfl
  | a :: l => by rw [AV.rens, rens_map ρ l]; rfl
section
variable {E E0 : Env} {m : Nat} {ρ : Nat → Nat}
mutual
theorem VRel.unren (hφ : ∀ i p, i < m → E.φ (ρ i) = some p → E0.φ i = some p) (hK : ∀ B o, E.K B = some o → E0.K B = some o) : ∀ {v : AV} {u : Value}, VRel E (v.ren ρ) u → v.idLt m = true → VRel E0 v u
  | .bool b, _, h, _ => by rw [AV.ren] at h; cases h; exact .bool b
  | .int k n, _, h, _ => by rw [AV.ren] at h; cases h; exact .int k n
  | .str s, _, h, _ => by rw [AV.ren] at h; cases h; exact .str s
  | .nilptr, _, h, _ => by rw [AV.ren] at h; cases h; exact .nilptr
  | .ptr i o, _, h, hi => by
    rw [AV.ren] at h
    cases h with
    | ptr h => exact .ptr (hφ i _ (by simpa [AV.idLt] using hi) h)
  | .vptr cs, _, h, hi => by
    rw [AV.ren] at h
    cases h with
    | vptr h1 h2 => exact .vptr (h1.imp id fun ⟨c, e, f, a, b⟩ => ⟨c, e, f, hK _ _ a, b⟩) (VRels.unren hφ hK h2 (by simpa [AV.idLt] using hi))
  | .nilsl, _, h, _ => by rw [AV.ren] at h; cases h; exact .nilsl
  | .sl i o z len cap opn, _, h, hi => by
    rw [AV.ren] at h
    cases h with
    | sl h hl hc ho hn => exact .sl (hφ i _ (by simpa [AV.idLt] using hi) h) hl hc ho hn
  | .vsl cs n, _, h, hi => by
    rw [AV.ren] at h
    cases cs with
    | nil =>
      rw [AV.rens] at h
      cases h with
      | vsl h1 h2 h3 => cases h2; exact .vsl (h1.imp id fun ⟨c, e, f, a, b⟩ => ⟨c, e, f, hK _ _ a, b⟩) .nil h3
      | vsl0 => exact .vsl0
    | cons a cs =>
      rw [AV.rens] at h
      cases h with
      | vsl h1 h2 h3 => exact .vsl (h1.imp id fun ⟨c, e, f, a, b⟩ => ⟨c, e, f, hK _ _ a, b⟩) (VRels.unren hφ hK (as_ := a :: cs) (by rw [AV.rens]; exact h2) (by simpa [AV.idLt] using hi)) h3
  | .nilmap, _, h, _ => by rw [AV.ren] at h; cases h; exact .nilmap
  | .map i, _, h, hi => by
    rw [AV.ren] at h
    cases h with
    | map h => exact .map (hφ i _ (by simpa [AV.idLt] using hi) h)
  | .func f a b, _, h, hi => by
    rw [AV.ren] at h
    simp only [AV.idLt, Bool.and_eq_true] at hi
    cases h with
    | func h1 h2 => exact .func (VRels.unren hφ hK h1 hi.1) (VRels.unren hφ hK h2 hi.2)
  | .nilfunc, _, h, _ => by rw [AV.ren] at h; cases h; exact .nilfunc
  | .iface t v, _, h, hi => by
    rw [AV.ren] at h
    cases h with
    | iface h => exact .iface (VRel.unren hφ hK h (by simpa [AV.idLt] using hi))
  | .niliface, _, h, _ => by rw [AV.ren] at h; cases h; exact .niliface
  | .agg cs, _, h, hi => by
    rw [AV.ren] at h
    cases h with
    | agg h => exact .agg (VRels.unren hφ hK h (by simpa [AV.idLt] using hi))
  | .tuple cs, _, h, hi => by
    rw [AV.ren] at h
    cases h with
    | tuple h => exact .tuple (VRels.unren hφ hK h (by simpa [AV.idLt] using hi))
theorem VRels.unren (hφ : ∀ i p, i < m → E.φ (ρ i) = some p → E0.φ i = some p) (hK : ∀ B o, E.K B = some o → E0.K B = some o) : ∀ {as_ : List AV} {us : List Value}, VRels E (AV.rens ρ as_) us → AV.allLt m as_ = true → VRels E0 as_ us
  | [], _, h, _ => by rw [AV.rens] at h; cases h; exact .nil
  | a :: as_, _, h, hi => by
    rw [AV.rens] at h
    simp only [AV.allLt, Bool.and_eq_true] at hi
    cases h with
    | cons h t => exact .cons (VRel.unren hφ hK h hi.1) (VRels.unren hφ hK t hi.2)
end
mutual
theorem VRel.ren (hφ : ∀ i p, i < m → E0.φ i = some p → E.φ (ρ i) = some p) (hK : ∀ B o, E0.K B = some o → E.K B = some o) : ∀ {v : AV} {u : Value}, VRel E0 v u → v.idLt m = true → VRel E (v.ren ρ) u
  | _, _, .bool b, _ => .bool b
  | _, _, .int k n, _ => .int k n
  | _, _, .str s, _ => .str s
  | _, _, .nilptr, _ => .nilptr
  | _, _, .ptr h, hi => .ptr (hφ _ _ (by simpa [AV.idLt] using hi) h)
  | _, _, .vptr h1 h2, hi => .vptr (h1.imp id fun ⟨c, e, f, a, b⟩ => ⟨c, e, f, hK _ _ a, b⟩) (VRels.ren hφ hK h2 (by simpa [AV.idLt] using hi))
  | _, _, .nilsl, _ => .nilsl
  | _, _, .sl h hl hc ho hn, hi => .sl (hφ _ _ (by simpa [AV.idLt] using hi) h) hl hc ho hn
  | _, _, .vsl h1 h2 h3, hi => .vsl (h1.imp id fun ⟨c, e, f, a, b⟩ => ⟨c, e, f, hK _ _ a, b⟩) (VRels.ren hφ hK h2 (by simpa [AV.idLt] using hi)) h3
  | _, _, .vsl0, _ => .vsl0
  | _, _, .nilmap, _ => .nilmap
  | _, _, .map h, hi => .map (hφ _ _ (by simpa [AV.idLt] using hi) h)
  | _, _, .func h1 h2, hi => by
    simp only [AV.idLt, Bool.and_eq_true] at hi
    exact .func (VRels.ren hφ hK h1 hi.1) (VRels.ren hφ hK h2 hi.2)
  | _, _, .nilfunc, _ => .nilfunc
  | _, _, .iface h, hi => .iface (VRel.ren hφ hK h (by simpa [AV.idLt] using hi))
  | _, _, .niliface, _ => .niliface
  | _, _, .agg h, hi => .agg (VRels.ren hφ hK h (by simpa [AV.idLt] using hi))
  | _, _, .tuple h, hi => .tuple (VRels.ren hφ hK h (by simpa [AV.idLt] using hi))
theorem VRels.ren (hφ : ∀ i p, i < m → E0.φ i = some p → E.φ (ρ i) = some p) (hK : ∀ B o, E0.K B = some o → E.K B = some o) : ∀ {as_ : List AV} {us : List Value}, VRels E0 as_ us → AV.allLt m as_ = true → VRels E (AV.rens ρ as_) us
  | _, _, .nil, _ => .nil
  | _, _, .cons h t, hi => by
    simp only [AV.allLt, Bool.and_eq_true] at hi
    exact .cons (VRel.ren hφ hK h hi.1) (VRels.ren hφ hK t hi.2)
end
theorem ORel.unren (hφ : ∀ i p, i < m → E.φ (ρ i) = some p → E0.φ i = some p) (hK : ∀ B o, E.K B = some o → E0.K B = some o) {p : Place} {x : AObj} {ob : Obj} (h : ORel E p (x.ren ρ) ob) (hi : AV.allLt m x.cellsList = true) : ORel E0 p x ob := by
  cases x with
  | cells cs => obtain ⟨c, e, fz, vs, h1, h2, h3, h4, h5⟩ := h; exact ⟨c, e, fz, vs, h1, h2, h3.unren hφ hK hi, h4, h5⟩
  | row t cs => obtain ⟨⟨c, e, fz, vs, h1, h2, h3, h4, h5⟩, h6⟩ := h; exact ⟨⟨c, e, fz, vs, h1, h2, h3.unren hφ hK hi, h4, h5⟩, h6⟩
  | map es =>
    obtain ⟨ents, clk, h1, h2, h3⟩ := h
    rw [AObj.cellsList, AV.allLt_append, Bool.and_eq_true] at hi
    refine ⟨ents, clk, h1, VRels.unren hφ hK (ρ := ρ) ?_ hi.1, VRels.unren hφ hK (ρ := ρ) ?_ hi.2⟩
    · rw [rens_map, List.map_map]; simp only [List.map_map] at h2; exact h2
    · rw [rens_map, List.map_map]; simp only [List.map_map] at h3; exact h3
theorem ORel.ren (hφ : ∀ i p, i < m → E0.φ i = some p → E.φ (ρ i) = some p) (hK : ∀ B o, E0.K B = some o → E.K B = some o) {p : Place} {x : AObj} {ob : Obj} (h : ORel E0 p x ob) (hi : AV.allLt m x.cellsList = true) : ORel E p (x.ren ρ) ob := by
  cases x with
  | cells cs => obtain ⟨c, e, fz, vs, h1, h2, h3, h4, h5⟩ := h; exact ⟨c, e, fz, vs, h1, h2, h3.ren hφ hK hi, h4, h5⟩
  | row t cs => obtain ⟨⟨c, e, fz, vs, h1, h2, h3, h4, h5⟩, h6⟩ := h; exact ⟨⟨c, e, fz, vs, h1, h2, h3.ren hφ hK hi, h4, h5⟩, h6⟩
  | map es =>
    obtain ⟨ents, clk, h1, h2, h3⟩ := h
    rw [AObj.cellsList, AV.allLt_append, Bool.and_eq_true] at hi
    refine ⟨ents, clk, h1, ?_, ?_⟩
    · have := VRels.ren hφ hK h2 hi.1
      rw [rens_map, List.map_map] at this
      simp only [List.map_map]; exact this
    · have := VRels.ren hφ hK h3 hi.2
      rw [rens_map, List.map_map] at this
      simp only [List.map_map]; exact this
end
structure IsPart (H0 : AHeap) (ρ : Nat → Nat) (H : AHeap) : Prop where
  full : ∀ i, i < H0.next → ∃ x, H0.get i = some x ∧ H.get (ρ i) = some (x.ren ρ)
  inj : ∀ i j, i < H0.next → j < H0.next → ρ i = ρ j → i = j
def AHeap.patch (H H1 : AHeap) (m : Nat) (ρ : Nat → Nat) : AHeap := { next := H.next, get := fun j => match (List.range m).find? (fun i => ρ i == j) with
  | some i => (H1.get i).map (AObj.ren ρ)
  | none => H.get j }
noncomputable def Env.part (E : Env) (H0 : AHeap) (ρ : Nat → Nat) (H : AHeap) (w : World) : Env := by
  classical
  exact { φ := fun i => if i < H0.next then E.φ (ρ i) else none, K := E.K, F := fun B => if (∃ j x p, H.get j = some x ∧ (∀ i, i < H0.next → ρ i ≠ j) ∧ E.φ j = some p ∧ p.b = B) then w.heap[B]? else E.F B, os := E.os, out := E.out }
section
variable {E : Env} {H0 H : AHeap} {ρ : Nat → Nat} {w : World}
theorem part_live {B j : Nat} {x : AObj} {p : Place} (hj : H.get j = some x) (hn : ∀ i, i < H0.next → ρ i ≠ j) (hp : E.φ j = some p) (hb : p.b = B) : (E.part H0 ρ H w).F B = w.heap[B]? := by
  unfold Env.part
  exact if_pos ⟨j, x, p, hj, hn, hp, hb⟩
theorem part_cases (E : Env) (H0 : AHeap) (ρ : Nat → Nat) (H : AHeap) (w : World) (B : Nat) : (E.part H0 ρ H w).F B = E.F B ∨ (∃ j x p, H.get j = some x ∧ (∀ i, i < H0.next → ρ i ≠ j) ∧ E.φ j = some p ∧ p.b = B) := by
  by_cases h : ∃ j x p, H.get j = some x ∧ (∀ i, i < H0.next → ρ i ≠ j) ∧ E.φ j = some p ∧ p.b = B
  · exact .inr h
  · left; unfold Env.part; exact if_neg h
theorem part_φ {i : Nat} (hi : i < H0.next) : (E.part H0 ρ H w).φ i = E.φ (ρ i) := by
  show (if i < H0.next then E.φ (ρ i) else none) = _
  rw [if_pos hi]
end
theorem Does.part {P : Program} {G : Nat → Option AV} {f : FuncId} {args : List AV} {H0 H : AHeap} {ρ : Nat → Nat} {R : AV → AHeap → Prop} (h : Does P G f args H0 R) (hw0 : H0.Wf) (ha : AV.allLt H0.next args = true)
    (hp : IsPart H0 ρ H) (hG : ∀ g a, G g = some a → a.idLt 0 = true) (hr : ∀ r H1, R r H1 → H1.next = H0.next ∧ r.idLt H0.next = true) :
    Does P G f (AV.rens ρ args) H fun r h => ∃ r0 H1, R r0 H1 ∧ r = r0.ren ρ ∧ h = H.patch H1 H0.next ρ :=
  ⟨fun E w vs hR hG' hv => by
    have hlive : ∀ i x p, H.get i = some x → E.φ i = some p → E.K p.b = none ∧ E.F p.b = none ∧ ∃ ob, w.heap[p.b]? = some ob ∧ ORel E p x ob := fun i x p hi hp => by
      obtain ⟨q, ob, h1, h2, h3, h4, h5⟩ := hR.live i x hi
      rw [hp] at h1; cases h1
      exact ⟨h2, h3, ob, h4, h5⟩
    have hback : ∀ i p, i < H0.next → E.φ (ρ i) = some p → (E.part H0 ρ H w).φ i = some p := fun i p hi hq => by rw [part_φ hi]; exact hq
    have hR0 : Rel (E.part H0 ρ H w) H0 w := by
      refine ⟨hR.os, hR.out, hR.K, fun B o hB => ?_, fun B => ?_, fun i p hq => ?_, fun i x hi => ?_, fun i j x y p q hi hj hpi hqj hb => ?_⟩
      · rcases part_cases E H0 ρ H w B with e | ⟨j, x, p, hj, hn, hq, rfl⟩
        · rw [e] at hB; exact hR.F B o hB
        · rw [part_live hj hn hq rfl] at hB; exact hB
      · rcases part_cases E H0 ρ H w B with e | ⟨j, x, p, hj, hn, hq, rfl⟩
        · rw [e]; exact hR.KF B
        · exact .inl (hlive j x p hj hq).1
      · have hq : (if i < H0.next then E.φ (ρ i) else none) = some p := hq
        split at hq
        · assumption
        · simp at hq
      · have hlt := (hw0 i x hi).1
        obtain ⟨x', h1, h2⟩ := hp.full i hlt
        rw [hi] at h1; cases h1
        obtain ⟨p, ob, g1, g2, g3, g4, g5⟩ := hR.live _ _ h2
        refine ⟨p, ob, by rw [part_φ hlt]; exact g1, g2, ?_, g4, g5.unren hback (fun _ _ h => h) (hw0 i x hi).2⟩
        rcases part_cases E H0 ρ H w p.b with e | ⟨j, y, q, hj, hn, hq, hb⟩
        · rw [e]; exact g3
        · exact absurd (hR.inj _ _ _ _ _ _ h2 hj g1 hq hb.symm) (hn i hlt)
      · have l1 := (hw0 i x hi).1
        have l2 := (hw0 j y hj).1
        rw [part_φ l1] at hpi
        rw [part_φ l2] at hqj
        obtain ⟨_, _, g1⟩ := hp.full i l1
        obtain ⟨_, _, g2⟩ := hp.full j l2
        exact hp.inj i j l1 l2 (hR.inj _ _ _ _ _ _ g1 g2 hpi hqj hb)
    have kn : Knows (E.cut 0) (E.part H0 ρ H w) := ⟨fun i p hp => by simp [Env.cut] at hp, fun _ _ h => h⟩
    refine (h.run _ w vs hR0 ((GRel.cut hG' hG).mono kn) (VRels.unren hback (fun _ _ h => h) hv ha)).mono ?_
    rintro v w' ⟨r, H1, E1, g1, g2, g3, g4⟩
    obtain ⟨hn1, hr1⟩ := hr r H1 g1
    have hKE : ∀ B o, E.K B = some o → E1.K B = some o := g2.K
    have hF1 : E1.F = (E.part H0 ρ H w).F := g2.F
    have hkn : Knows E { E with K := E1.K } := ⟨fun _ _ h => h, hKE⟩
    have hφ1 : ∀ i p, i < H0.next → E1.φ i = some p → E.φ (ρ i) = some p := fun i p hi hq => by
      obtain ⟨x, _, h2⟩ := hp.full i hi
      obtain ⟨q, ob, k1, _⟩ := hR.live _ _ h2
      have := g2.φ i q (by rw [part_φ hi]; exact k1)
      rw [hq] at this; cases this
      exact k1
    have hw1 : H1.Wf := g4.wf
    have find_some : ∀ {j i : Nat}, (List.range H0.next).find? (fun i => ρ i == j) = some i → i < H0.next ∧ ρ i = j := fun h => by
      have h1 := List.mem_of_find?_eq_some h
      have h2 := List.find?_some h
      exact ⟨by simpa using h1, by simpa using h2⟩
    have find_none : ∀ {j : Nat}, (List.range H0.next).find? (fun i => ρ i == j) = none → ∀ i, i < H0.next → ρ i ≠ j := fun h i hi => by
      rw [List.find?_eq_none] at h
      simpa using h i (by simpa using hi)
    have patch_live : ∀ {j : Nat} {x : AObj}, (H.patch H1 H0.next ρ).get j = some x → ∃ y, H.get j = some y := fun {j x} hj => by
      have hj : (match (List.range H0.next).find? (fun i => ρ i == j) with | some i => (H1.get i).map (AObj.ren ρ) | none => H.get j) = some x := hj
      split at hj
      · rename_i i hf
        obtain ⟨f1, rfl⟩ := find_some hf
        obtain ⟨y, _, h2⟩ := hp.full i f1
        exact ⟨_, h2⟩
      · exact ⟨_, hj⟩
    refine ⟨r.ren ρ, H.patch H1 H0.next ρ, { E with K := E1.K }, ⟨r, H1, g1, rfl, rfl⟩, ⟨fun _ _ h => h, hKE, rfl, rfl, rfl⟩, ?_, ?_⟩
    · exact VRel.ren (E := { E with K := E1.K }) hφ1 (fun _ _ h => h) g3 hr1
    · refine ⟨g4.os.trans g2.os, g4.out.trans g2.out, g4.K, fun B o hB => ?_, fun B => ?_, hR.dom, fun j x hj => ?_, fun i j x y p q hi hj hpi hqj hb => ?_⟩
      · refine g4.F B o ?_
        rw [hF1]
        rcases part_cases E H0 ρ H w B with e | ⟨j, x, p, hj, hn, hq, rfl⟩
        · rw [e]; exact hB
        · have h2 := (hlive j x p hj hq).2.1
          have hB : E.F p.b = some o := hB
          rw [h2] at hB; simp at hB
      · rcases g4.KF B with e | e
        · exact .inl e
        · rw [hF1] at e
          rcases part_cases E H0 ρ H w B with e' | ⟨j, x, p, hj, hn, hq, rfl⟩
          · rw [e'] at e; exact .inr e
          · exact .inr (hlive j x p hj hq).2.1
      · have hj' : (match (List.range H0.next).find? (fun i => ρ i == j) with | some i => (H1.get i).map (AObj.ren ρ) | none => H.get j) = some x := hj
        clear hj
        split at hj'
        · rename_i i hf
          obtain ⟨f1, rfl⟩ := find_some hf
          obtain ⟨x1, hx1, rfl⟩ := Option.map_eq_some_iff.1 hj'
          obtain ⟨p, ob, k1, k2, k3, k4, k5⟩ := g4.live i x1 hx1
          have kφ := hφ1 i p f1 k1
          obtain ⟨y, _, h2⟩ := hp.full i f1
          refine ⟨p, ob, kφ, k2, (hlive _ _ _ h2 kφ).2.1, k4, k5.ren (E := { E with K := E1.K }) hφ1 (fun _ _ h => h) ?_⟩
          rw [← hn1]
          exact (hw1 i x1 hx1).2
        · rename_i hf
          have hn := find_none hf
          obtain ⟨p, ob, h1, h2, h3, h4, h5⟩ := hR.live j x hj'
          have hF0 : E1.F p.b = some ob := by rw [hF1, part_live hj' hn h1 rfl]; exact h4
          refine ⟨p, ob, h1, ?_, h3, g4.F _ _ hF0, h5.mono hkn⟩
          rcases g4.KF p.b with e | e
          · exact e
          · rw [hF0] at e; simp at e
      · obtain ⟨y1, h1⟩ := patch_live hi
        obtain ⟨y2, h2⟩ := patch_live hj
        exact hR.inj i j _ _ p q h1 h2 hpi hqj hb⟩
end Go.Abs

namespace Go.Abs
open Go
def renNew (ρ : Nat → Nat) (m n : Nat) (i : Nat) : Nat := if i < m then ρ i else n + (i - m)
def AHeap.patchNew (H H1 : AHeap) (m : Nat) (ρ : Nat → Nat) : AHeap := { next := H.next + (H1.next - m), get := fun j => if H.next ≤ j then (H1.get (m + (j - H.next))).map (AObj.ren (renNew ρ m H.next)) else match (List.range m).find? (fun i => ρ i == j) with
  | some i => (H1.get i).map (AObj.ren (renNew ρ m H.next))
  | none => H.get j }
theorem Does.partNew {P : Program} {G : Nat → Option AV} {f : FuncId} {args : List AV} {H0 H : AHeap} {ρ : Nat → Nat} {R : AV → AHeap → Prop} (h : Does P G f args H0 R) (hw0 : H0.Wf) (ha : AV.allLt H0.next args = true)
    (hp : IsPart H0 ρ H) (hG : ∀ g a, G g = some a → a.idLt 0 = true) (hr : ∀ r H1, R r H1 → H0.next ≤ H1.next) :
    Does P G f (AV.rens ρ args) H fun r h => ∃ r0 H1, R r0 H1 ∧ r = r0.ren (renNew ρ H0.next H.next) ∧ h = H.patchNew H1 H0.next ρ :=
  ⟨fun E w vs hR hG' hv => by
    have hlive : ∀ i x p, H.get i = some x → E.φ i = some p → E.K p.b = none ∧ E.F p.b = none ∧ ∃ ob, w.heap[p.b]? = some ob ∧ ORel E p x ob := fun i x p hi hp => by
      obtain ⟨q, ob, h1, h2, h3, h4, h5⟩ := hR.live i x hi
      rw [hp] at h1; cases h1
      exact ⟨h2, h3, ob, h4, h5⟩
    have hback : ∀ i p, i < H0.next → E.φ (ρ i) = some p → (E.part H0 ρ H w).φ i = some p := fun i p hi hq => by rw [part_φ hi]; exact hq
    have hR0 : Rel (E.part H0 ρ H w) H0 w := by
      refine ⟨hR.os, hR.out, hR.K, fun B o hB => ?_, fun B => ?_, fun i p hq => ?_, fun i x hi => ?_, fun i j x y p q hi hj hpi hqj hb => ?_⟩
      · rcases part_cases E H0 ρ H w B with e | ⟨j, x, p, hj, hn, hq, rfl⟩
        · rw [e] at hB; exact hR.F B o hB
        · rw [part_live hj hn hq rfl] at hB; exact hB
      · rcases part_cases E H0 ρ H w B with e | ⟨j, x, p, hj, hn, hq, rfl⟩
        · rw [e]; exact hR.KF B
        · exact .inl (hlive j x p hj hq).1
      · have hq : (if i < H0.next then E.φ (ρ i) else none) = some p := hq
        split at hq
        · assumption
        · simp at hq
      · have hlt := (hw0 i x hi).1
        obtain ⟨x', h1, h2⟩ := hp.full i hlt
        rw [hi] at h1; cases h1
        obtain ⟨p, ob, g1, g2, g3, g4, g5⟩ := hR.live _ _ h2
        refine ⟨p, ob, by rw [part_φ hlt]; exact g1, g2, ?_, g4, g5.unren hback (fun _ _ h => h) (hw0 i x hi).2⟩
        rcases part_cases E H0 ρ H w p.b with e | ⟨j, y, q, hj, hn, hq, hb⟩
        · rw [e]; exact g3
        · exact absurd (hR.inj _ _ _ _ _ _ h2 hj g1 hq hb.symm) (hn i hlt)
      · have l1 := (hw0 i x hi).1
        have l2 := (hw0 j y hj).1
        rw [part_φ l1] at hpi
        rw [part_φ l2] at hqj
        obtain ⟨_, _, g1⟩ := hp.full i l1
        obtain ⟨_, _, g2⟩ := hp.full j l2
        exact hp.inj i j l1 l2 (hR.inj _ _ _ _ _ _ g1 g2 hpi hqj hb)
    have kn : Knows (E.cut 0) (E.part H0 ρ H w) := ⟨fun i p hp => by simp [Env.cut] at hp, fun _ _ h => h⟩
    refine (h.run _ w vs hR0 ((GRel.cut hG' hG).mono kn) (VRels.unren hback (fun _ _ h => h) hv ha)).mono ?_
    rintro v w' ⟨r, H1, E1, g1, g2, g3, g4⟩
    have hn1 := hr r H1 g1
    have hKE : ∀ B o, E.K B = some o → E1.K B = some o := g2.K
    have hF1 : E1.F = (E.part H0 ρ H w).F := g2.F
    have hρlt : ∀ i, i < H0.next → ρ i < H.next := fun i hi => by
      obtain ⟨x, _, h2⟩ := hp.full i hi
      exact hR.lt h2
    have hφ1 : ∀ i p, i < H0.next → E1.φ i = some p → E.φ (ρ i) = some p := fun i p hi hq => by
      obtain ⟨x, _, h2⟩ := hp.full i hi
      obtain ⟨q, ob, k1, _⟩ := hR.live _ _ h2
      have := g2.φ i q (by rw [part_φ hi]; exact k1)
      rw [hq] at this; cases this
      exact k1
    obtain ⟨E2, hE2⟩ : ∃ E2 : Env, E2 = { φ := fun j => if j < H.next then E.φ j else E1.φ (H0.next + (j - H.next)), K := E1.K, F := E.F, os := E.os, out := E.out } := ⟨_, rfl⟩
    have e2φ : ∀ j, E2.φ j = if j < H.next then E.φ j else E1.φ (H0.next + (j - H.next)) := fun j => by rw [hE2]
    have e2K : E2.K = E1.K := by rw [hE2]
    have e2F : E2.F = E.F := by rw [hE2]
    have e2o : E2.os = E.os := by rw [hE2]
    have e2u : E2.out = E.out := by rw [hE2]
    clear hE2
    have hφ2 : ∀ i p, i < H1.next → E1.φ i = some p → E2.φ (renNew ρ H0.next H.next i) = some p := fun i p hi hq => by
      unfold renNew
      rw [e2φ]
      by_cases hm : i < H0.next
      · rw [if_pos hm, if_pos (hρlt i hm)]; exact hφ1 i p hm hq
      · rw [if_neg hm, if_neg (by omega), show H0.next + (H.next + (i - H0.next) - H.next) = i by omega]; exact hq
    have hK2 : ∀ B o, E1.K B = some o → E2.K B = some o := fun B o hB => by rw [e2K]; exact hB
    have hx : Ext E E2 := ⟨fun i p hi => by rw [e2φ, if_pos (hR.dom i p hi)]; exact hi, fun B o hB => by rw [e2K]; exact hKE B o hB, e2F, e2o, e2u⟩
    have hw1 : H1.Wf := g4.wf
    have find_some : ∀ {j i : Nat}, (List.range H0.next).find? (fun i => ρ i == j) = some i → i < H0.next ∧ ρ i = j := fun h => by
      have h1 := List.mem_of_find?_eq_some h
      have h2 := List.find?_some h
      exact ⟨by simpa using h1, by simpa using h2⟩
    have find_none : ∀ {j : Nat}, (List.range H0.next).find? (fun i => ρ i == j) = none → ∀ i, i < H0.next → ρ i ≠ j := fun h i hi => by
      rw [List.find?_eq_none] at h
      simpa using h i (by simpa using hi)
    -- where a block of the new heap comes from
    have from_ : ∀ {j : Nat} {x : AObj} {p : Place}, (H.patchNew H1 H0.next ρ).get j = some x → E2.φ j = some p →
        (∃ i x1, H1.get i = some x1 ∧ x = x1.ren (renNew ρ H0.next H.next) ∧ E1.φ i = some p ∧ renNew ρ H0.next H.next i = j) ∨ ((∀ i, i < H0.next → ρ i ≠ j) ∧ j < H.next ∧ H.get j = some x ∧ E.φ j = some p) := fun {j x p} hj hq => by
      have hj' : (if H.next ≤ j then (H1.get (H0.next + (j - H.next))).map (AObj.ren (renNew ρ H0.next H.next)) else match (List.range H0.next).find? (fun i => ρ i == j) with | some i => (H1.get i).map (AObj.ren (renNew ρ H0.next H.next)) | none => H.get j) = some x := hj
      clear hj
      rw [e2φ] at hq
      by_cases hlt : H.next ≤ j
      · rw [if_pos hlt] at hj'
        rw [if_neg (by omega)] at hq
        obtain ⟨x1, hx1, rfl⟩ := Option.map_eq_some_iff.1 hj'
        exact .inl ⟨_, x1, hx1, rfl, hq, by unfold renNew; rw [if_neg (by omega)]; omega⟩
      · rw [if_neg hlt] at hj'
        rw [if_pos (by omega)] at hq
        split at hj'
        · rename_i i hf
          obtain ⟨f1, rfl⟩ := find_some hf
          obtain ⟨x1, hx1, rfl⟩ := Option.map_eq_some_iff.1 hj'
          obtain ⟨p1, ob, k1, _⟩ := g4.live i x1 hx1
          have := hφ1 i p1 f1 k1
          rw [hq] at this; cases this
          exact .inl ⟨i, x1, hx1, rfl, k1, by unfold renNew; rw [if_pos f1]⟩
        · rename_i hf
          exact .inr ⟨find_none hf, by omega, hj', hq⟩
    have has_ : ∀ {j : Nat} {x : AObj}, (H.patchNew H1 H0.next ρ).get j = some x → ∃ p, E2.φ j = some p := fun {j x} hj => by
      have hj' : (if H.next ≤ j then (H1.get (H0.next + (j - H.next))).map (AObj.ren (renNew ρ H0.next H.next)) else match (List.range H0.next).find? (fun i => ρ i == j) with | some i => (H1.get i).map (AObj.ren (renNew ρ H0.next H.next)) | none => H.get j) = some x := hj
      clear hj
      rw [e2φ]
      by_cases hlt : H.next ≤ j
      · rw [if_pos hlt] at hj'
        rw [if_neg (by omega)]
        obtain ⟨x1, hx1, rfl⟩ := Option.map_eq_some_iff.1 hj'
        obtain ⟨p, ob, k1, _⟩ := g4.live _ x1 hx1
        exact ⟨p, k1⟩
      · rw [if_neg hlt] at hj'
        rw [if_pos (by omega)]
        split at hj'
        · rename_i i hf
          obtain ⟨f1, rfl⟩ := find_some hf
          obtain ⟨x1, hx1, rfl⟩ := Option.map_eq_some_iff.1 hj'
          obtain ⟨p1, ob, k1, _⟩ := g4.live i x1 hx1
          exact ⟨p1, hφ1 i p1 f1 k1⟩
        · obtain ⟨p, ob, k1, _⟩ := hR.live j x hj'
          exact ⟨p, k1⟩
    refine ⟨r.ren (renNew ρ H0.next H.next), H.patchNew H1 H0.next ρ, E2, ⟨r, H1, g1, rfl, rfl⟩, hx, ?_, ?_⟩
    · exact VRel.ren (E := E2) hφ2 hK2 g3 (VRel.idLt g4.dom g3)
    · refine ⟨by rw [e2o]; exact g4.os.trans g2.os, by rw [e2u]; exact g4.out.trans g2.out, fun B o hB => g4.K B o (by rw [← e2K]; exact hB), fun B o hB => ?_, fun B => ?_, fun j p hq => ?_, fun j x hj => ?_, fun i j x y p q hi hj hpi hqj hb => ?_⟩
      · refine g4.F B o ?_
        rw [hF1]
        rw [e2F] at hB
        rcases part_cases E H0 ρ H w B with e | ⟨j, x, p, hj, hn, hq, rfl⟩
        · rw [e]; exact hB
        · have h2 := (hlive j x p hj hq).2.1
          rw [h2] at hB; simp at hB
      · rw [e2K, e2F]
        rcases g4.KF B with e | e
        · exact .inl e
        · rw [hF1] at e
          rcases part_cases E H0 ρ H w B with e' | ⟨j, x, p, hj, hn, hq, rfl⟩
          · rw [e'] at e; exact .inr e
          · exact .inr (hlive j x p hj hq).2.1
      · show j < H.next + (H1.next - H0.next)
        rw [e2φ] at hq
        split at hq
        · omega
        · have := g4.dom _ _ hq; omega
      · obtain ⟨p, hq⟩ := has_ hj
        rcases from_ hj hq with ⟨i, x1, hx1, rfl, hi, hij⟩ | ⟨hn, hlt, hj', hq'⟩
        · obtain ⟨p', ob, k1, k2, k3, k4, k5⟩ := g4.live i x1 hx1
          rw [hi] at k1; cases k1
          refine ⟨p, ob, hq, by rw [e2K]; exact k2, ?_, k4, k5.ren (E := E2) hφ2 hK2 (hw1 i x1 hx1).2⟩
          rw [e2F]
          cases hEF : E.F p.b with
          | none => rfl
          | some o =>
            have : E1.F p.b = some o := by
              rw [hF1]
              rcases part_cases E H0 ρ H w p.b with e | ⟨j', x', p', hj', hn', hq', hb'⟩
              · rw [e]; exact hEF
              · have h2 := (hlive j' x' p' hj' hq').2.1
                rw [hb'] at h2
                rw [h2] at hEF; simp at hEF
            rw [k3] at this; simp at this
        · obtain ⟨p', ob, h1, h2, h3, h4, h5⟩ := hR.live j x hj'
          rw [hq'] at h1; cases h1
          have hF0 : E1.F p.b = some ob := by rw [hF1, part_live hj' hn hq' rfl]; exact h4
          refine ⟨p, ob, hq, ?_, by rw [e2F]; exact h3, g4.F _ _ hF0, h5.mono hx.knows⟩
          rw [e2K]
          rcases g4.KF p.b with e | e
          · exact e
          · rw [hF0] at e; simp at e
      · have mix : ∀ {i : Nat} {x1 : AObj} {p : Place} {j : Nat} {y : AObj} {q : Place}, H1.get i = some x1 → E1.φ i = some p → (∀ i, i < H0.next → ρ i ≠ j) → H.get j = some y → E.φ j = some q → p.b = q.b → False := fun {i x1 p j y q} a1 a2 a3 a4 a5 a6 => by
          obtain ⟨p', ob, k1, k2, k3, k4, k5⟩ := g4.live i x1 a1
          rw [a2] at k1; cases k1
          obtain ⟨_, _, ob', b1, _⟩ := hlive j y q a4 a5
          have : E1.F p.b = some ob' := by rw [hF1, part_live a4 a3 a5 a6.symm, a6]; exact b1
          rw [k3] at this; simp at this
        rcases from_ hi hpi with ⟨i1, x1, c1, rfl, c2, c3⟩ | ⟨c1, c2, c3, c4⟩ <;> rcases from_ hj hqj with ⟨j1, y1, d1, rfl, d2, d3⟩ | ⟨d1, d2, d3, d4⟩
        · rw [← c3, ← d3, g4.inj i1 j1 _ _ p q c1 d1 c2 d2 hb]
        · exact (mix c1 c2 d1 d3 d4 hb).elim
        · exact (mix d1 d2 c1 c3 c4 hb.symm).elim
        · exact hR.inj i j _ _ p q c3 d3 c4 d4 hb⟩
end Go.Abs
